/- Numbers as bytes: written and read, walked, by the program and by the document. A reader of edits' bytes: a number, a text, walked. Edits' bytes: a text's, a row's; is a reader at its end; walked. Cursors as bytes, by the program and by the document, walked. The cursor of some bytes, by the program and by the document, walked. Cursors saved and loaded: walked. -/
import Derived.Test.YtdacanghbepjpaaGreatDoorM1
import Derived.Test.YtdacanghbepjpaaGreatDoorM3
import Derived.Test.YtdacanghbepjpaaGreatDoorLen64
import Derived.Deep.QuietTactic
import Derived.BigQuiet
import Derived.Deep.RegionHeld3
import Derived.Test.YtdacanghbepjpaaGreatDoorM2
import Derived.Test.YtdacanghbepjpaaGreatDoorM4
namespace Go.Proofs.YtdacanghbepjpaaGreatDoor
set_option maxRecDepth 100000
open Go.RowKit
theorem OwnB.row' {w:World} {B:Nat} {v:Value} {l:List UInt8} (h:OwnB w B v l) (hl:0<l.length):∃ b cap,v=.slice (some ⟨b,0,none⟩) l.length cap∧B≤b∧BRow w b l:=by
 obtain ⟨_,h | ⟨g,cap,cur,hv,hg,hh,hn,hm,hs,ht⟩⟩:=h
 · omega
 · refine ⟨g,cap,hv,hg,cur,_,0,0,hh,.inr rfl,fun j hj => ?_⟩
   have e:(cur.toList.take (l.length*1))[j]?=(l.map byteV)[j]?:=by rw [ht]
   rw [Nat.mul_one,List.getElem?_take,if_pos hj,List.getElem?_map,List.getElem?_eq_getElem hj] at e
   rw [← Array.getElem?_toList,e]
   rfl
theorem or_flag:∀ x:Fin 256,bits BinOp.or IntKind.u8 ((x.val:Nat):Int) 128=((x.val % 128+128:Nat):Int):=by decide +kernel
theorem andNot_flag:∀ x:Fin 256,bits BinOp.andNot IntKind.u8 ((x.val:Nat):Int) 128=((x.val % 128:Nat):Int):=by decide +kernel
theorem or_digit (m k:Nat):bits BinOp.or IntKind.u8 ((m:Int) / 2 ^ (7*k) % 256) 128=((UInt8.ofNat (m / 128 ^ k % 128+128)).toNat:Int):=by
 have e:(m:Int) / 2 ^ (7*k) % 256=((m / 128 ^ k % 256:Nat):Int):=by
  rw [show (128:Nat) ^ k=2 ^ (7*k) by rw [Nat.pow_mul]]
  push_cast
  rfl
 rw [e,or_flag ⟨m / 128 ^ k % 256,Nat.mod_lt _ (by decide)⟩,Var.ofNat_toNat (by omega)]
 congr 1
 show m / 128 ^ k % 256 % 128+128=_
 omega
set_option maxHeartbeats 2000000 in
theorem put_any (n:Int) (w:World) (hn:-9223372036854775808≤n∧n≤9223372036854775807) :
  Calls Tryz.prog 131 #[.int .i64 n] w fun e w' => e=.returned (.string ⟨(Var.putI n).toArray⟩)∧Below w.heap.size w w':=by
 unfold Var.putI
 obtain ⟨hn1,hn2⟩:=hn
 by_cases hneg:n<0
 · rw [if_pos hneg]
   go_enter Tryz.func131,Tryz.ntmps131
   go_wp2_with fail
   go_ret
   exact ⟨rfl,Below.refl _ _⟩
 · rw [if_neg hneg]
   obtain ⟨m,rfl⟩:∃ m:Nat,n=m:=⟨n.toNat,by omega⟩
   rw [Int.toNat_natCast]
   have hmany:=Var.many_eq (show m<2 ^ 64 by omega)
   have hL:=Var.hi_len_pos m
   have hL9:(Var.hi m).length≤9:=by
    rw [← Var.put_length_hi]
    exact Var.put_len_le (by rw [Var.pow9];omega)
   obtain ⟨b,hb⟩:∃ b,b=Lib.bitLen m:=⟨_,rfl⟩
   rw [← hb] at hmany
   have hb64:b≤63:=by omega
   obtain ⟨L,hLL⟩:∃ L,L=(Var.hi m).length:=⟨_,rfl⟩
   rw [← hLL] at hmany hL hL9
   have hq:max 1 (((b:Int)+6) / 7)=(L:Int):=by omega
   have Hl:=Lib.hid (fun W:World => Tryz.bits_Len64 (m:Int) W (by omega) (by omega))
   rw [Int.toNat_natCast,← hb] at Hl
   have HLL:=Lib.hid hLL
   have Hq:=Lib.hid hq
   have hm0:(m:Int) % 18446744073709551616=m:=by omega
   clear hmany hq hb hLL hneg
   go_enter Tryz.func131,Tryz.ntmps131
   go_wp2_with fail
   refine (Hl.out _).mono ?_
   rintro e w1 ⟨rfl,rfl⟩
   have q1:IntKind.i64.wrap ((b:Int)+7)=(b:Int)+7:=IntWalk.i64_in _ ⟨by omega,by omega⟩
   have q2:(b:Int)+7-1=(b:Int)+6:=by omega
   have q3:(0:Int)≤(b:Int)+6:=by omega
   have q4:Int.tdiv ((b:Int)+6) 7=((b:Int)+6) / 7:=Int.tdiv_eq_ediv_of_nonneg (by omega)
   go_wp2_with (first | (refine wpList_make_full_bytes rfl _ _ rfl w1.heap.size .i64 .i64 _ _ L rfl rfl Hq.out Hq.out (by omega) (Nat.le_refl _) ?_;intro v1 w2 hown hbel;obtain ⟨g,cap,hv,hgb,hrow⟩:=hown.row' (by rw [List.length_replicate];omega);rw [List.length_replicate] at hv;subst hv;have Hrow:=Lib.hid hrow;have Hbel:=Lib.hid hbel;clear hrow hbel hown))
   simp only [Hq.out]
   clear q1 q2 q3 q4 Hl
   have Hat:BRow w2 g (Var.part m 0):=by rw [Var.part_zero,← HLL.out];exact Hrow.out
   clear Hrow Hq
   go_loopw [5,18] (fun _ v18 wr => ∃ i:Nat,v18=.int .i64 i∧i≤L∧BRow wr g (Var.part m i)∧Below w1.heap.size w1 wr) (fun _ v18 _ => L-(intOf v18).toNat)
   case atStart => exact ⟨0,rfl,Nat.zero_le _,Hat,Hbel.out⟩
   case round =>
    clear Hat Hbel
    obtain ⟨i,rfl,hi,hrow,hbel⟩:=hrel
    have Hrow:=Lib.hid hrow
    have Hbel:=Lib.hid hbel
    clear hbel
    have hpl:=Var.part_length m i (by rw [← HLL.out];exact hi)
    rw [← HLL.out] at hpl
    by_cases hlt:i<L
    · have q0:=hrow.cell i (by omega)
      have q1:=hrow.free i (by omega)
      have hlt':i<(Var.hi m).length:=by rw [← HLL.out];exact hlt
      have hs:=hrow.set i ((Var.hi m)[i])
      rw [Var.part_set m i hlt'] at hs
      have hget:=Var.hi_get m i hlt'
      rw [← HLL.out] at hget
      obtain ⟨k,hk⟩:∃ k:Nat,(L:Int)-1-i=k:=⟨L-1-i,by omega⟩
      have hkk:L-1-i=k:=by omega
      rw [hkk] at hget
      rw [hget] at hs
      have Hs:=Lib.hid hs
      generalize ((Var.part m i)[i]'(by omega))=old at q0
      have hk8:k≤8:=by omega
      have hi2:(i:Int)<L:=by omega
      clear hrow hs hget hkk hpl
      go_wp2_with fail
      rw [or_digit]
      refine ⟨⟨i+1,by go_num,by omega,Hs.out,Hbel.out.setCell (p:=⟨g,i,none⟩) hgb _⟩,?_⟩
      simp [intOf];omega
    · obtain rfl:i=L:=by omega
      obtain ⟨k,hk⟩:∃ k:Nat,(i:Int)-1=k:=⟨i-1,by omega⟩
      have hkn:i-1=k:=by omega
      have hpe:Var.part m i=Var.hi m:=by rw [HLL.out];exact Var.part_end m
      rw [hpe] at hrow
      have hkl:k<(Var.hi m).length:=by rw [← HLL.out];omega
      have q0:=hrow.cell k hkl
      have q1:=hrow.free k hkl
      have hget:=Var.hi_get m k hkl
      rw [← HLL.out,hkn,Nat.sub_self,Nat.pow_zero,Nat.div_one] at hget
      rw [hget,Var.ofNat_toNat (by omega)] at q0
      have hs:=hrow.set k (UInt8.ofNat (m % 128))
      have hph:=Var.put_hi m
      rw [← HLL.out,hkn] at hph
      rw [← hph,Var.ofNat_toNat (by omega)] at hs
      have hpl:(Var.put m).length=i:=by rw [Var.put_length_hi,HLL.out]
      have ha:=andNot_flag ⟨m % 128+128,by omega⟩
      have ha2:bits BinOp.andNot IntKind.u8 ((m:Int) % 128+128) 128=(m:Int) % 128:=by
       have e:((m:Int) % 128+128)=((m % 128+128:Nat):Int):=by push_cast;rfl
       rw [e,ha]
       show ((( m % 128+128) % 128:Nat):Int)=_
       omega
      rw [show ((m % 128:Nat):Int)=(m:Int) % 128 by omega] at hs
      have Hs:=Lib.hid hs
      have Hpl:=Lib.hid hpl
      have hk2:(k:Int)<i:=by omega
      have q0':wr.cell? ⟨g,k,none⟩=some (.int .u8 ((m:Int) % 128+128)):=by rw [q0];push_cast;rfl
      clear hrow hpe hget hs hph hpl ha q0 hkn hm0
      go_wp2_with (refine wpList_text_of rfl _ rfl g i cap rfl (Var.put m) Hpl.out Hs.out ?_)
      go_ret
      exact ⟨rfl,Hbel.out.setCell (p:=⟨g,k,none⟩) hgb _⟩
theorem get_none {s:ByteArray} {p:Nat} (h:s.size≤p):Var.get s.data.toList p=none:=by
 unfold Var.get
 have hl:s.data.toList.length=s.size:=by simp
 rw [List.drop_eq_nil_iff.2 (by omega)]
 split
 · rfl
 · rfl
def gotE (g:Option (Nat×Nat)):Ending:=match g with
 | none => .returned (.tuple #[.int .i64 0,.int .i64 0,.bool false])
 | some x => .returned (.tuple #[.int .i64 x.1,.int .i64 x.2,.bool true])
theorem i64_or_nat3 (a b:Nat) (ha:a<2 ^ 63) (hb:b<2 ^ 63):bits .or .i64 (a:Int) (b:Int)=((a ||| b:Nat):Int):=by
 have hx:a ||| b<2 ^ 63:=Nat.or_lt_two_pow ha hb
 show IntKind.i64.wrap ((BitVec.ofInt 64 (a:Int) ||| BitVec.ofInt 64 (b:Int)).toNat:Int)=_
 rw [BitVec.toNat_or,ofInt_u64 a (by omega),ofInt_u64 b (by omega)]
 exact IntWalk.i64_in _ ⟨by omega,by omega⟩
theorem acc_step (acc i:Nat) (c:UInt8) (hi:i≤8) (ha:acc<128 ^ i):bits BinOp.or IntKind.i64 (wrap64 (acc*128)) (wrap64 (bits BinOp.andNot IntKind.u8 (c.toNat) 128))=((acc*128+c.toNat % 128:Nat):Int):=by
 have h1:(128:Nat) ^ i≤128 ^ 8:=Nat.pow_le_pow_right (by decide) hi
 have h2:(128:Nat) ^ 8=72057594037927936:=by decide
 have hc:=c.toNat_lt
 have e:bits BinOp.andNot IntKind.u8 (c.toNat:Int) 128=((c.toNat % 128:Nat):Int):=andNot_flag ⟨c.toNat,by omega⟩
 rw [e]
 have e1:wrap64 ((acc:Int)*128)=((acc*128:Nat):Int):=by unfold wrap64;push_cast;omega
 have e2:wrap64 ((c.toNat % 128:Nat):Int)=((c.toNat % 128:Nat):Int):=by unfold wrap64;omega
 rw [e1,e2,i64_or_nat3 _ _ (by omega) (by omega),nat_join 7 _ _ (by omega) (by omega)]
theorem rd_step {k acc:Nat} {c:UInt8} {r:List UInt8}:Var.rd (k+1) acc (c::r)=if c.toNat<128 then some (acc*128+c.toNat,1) else (Var.rd k (acc*128+(c.toNat-128)) r).map fun p => (p.1,p.2+1):=by
 rw [Var.rd]
set_option maxHeartbeats 2000000 in
theorem get_any (s:ByteArray) (p:Nat) (w:World) (hs:s.size≤maxLen) (hp:p≤9223372036854775807) :
  Calls Tryz.prog 145 #[.string s,.int .i64 p] w fun e w' => e=gotE (Var.get s.data.toList p)∧w=w':=by
 have hsm:s.size≤9223372036854775807:=by unfold maxLen at hs;omega
 have hl:s.data.toList.length=s.size:=by simp
 by_cases hin:p<s.size
 · have h0:s.data.toList[p]?=some s[p]:=by rw [List.getElem?_eq_getElem (by omega)];rfl
   obtain ⟨c0,hc0⟩:∃ c0,s[p]=c0:=⟨_,rfl⟩
   have hpi:(p:Int)<s.size:=by omega
   by_cases h128:c0=128
   · have hg:Var.get s.data.toList p=none:=by unfold Var.get;rw [if_pos (by rw [h0,hc0,h128])]
     rw [hg]
     unfold gotE
     clear hg h0 hs hl
     go_enter Tryz.func145,Tryz.ntmps145
     go_wp2_with fail
     go_ret3
     exact ⟨rfl,rfl⟩
   · have hg:Var.get s.data.toList p=(Var.rd 9 0 (s.data.toList.drop p)).map fun x => (x.1,p+x.2):=by
      unfold Var.get
      rw [if_neg (by rw [h0,hc0];exact fun e => h128 (Option.some.inj e))]
     rw [hg]
     have q128:(c0.toNat:Int)≠128:=fun e => h128 (UInt8.toNat_inj.1 (by show c0.toNat=128;omega))
     have q128':((c0.toNat:Int) == 128)=false:=by rw [beq_eq_false_iff_ne];exact q128
     obtain ⟨m,hm⟩:∃ m:Nat,min (9:Int) ((s.size:Int)-p)=m:=⟨(min (9:Int) ((s.size:Int)-p)).toNat,by omega⟩
     have hm9:m≤9∧m≤s.size-p:=by omega
     have hmm:m=9∨p+m=s.size:=by omega
     obtain ⟨R,hR⟩:∃ R,R=Var.rd 9 0 (s.data.toList.drop p):=⟨_,rfl⟩
     rw [← hR]
     have HR:=Lib.hid hR
     have Hl:=Lib.hid hl
     have Hmm:=Lib.hid hmm
     clear hg h0 hs hl hR h128 q128 hmm
     go_enter Tryz.func145,Tryz.ntmps145
     go_wp2_with fail
     clear hm q128' hc0
     go_loopw [4,7,8,28] (fun v4 _ _ v28 wr => ∃ i acc:Nat,v28=.int .i64 i∧v4=.int .i64 acc∧i≤m∧acc<128 ^ i∧wr=w∧R=(Var.rd (9-i) acc (s.data.toList.drop (p+i))).map fun x => (x.1,x.2+i)) (fun _ _ _ v28 _ => m-(intOf v28).toNat)
     case atStart =>
      refine ⟨0,0,rfl,rfl,Nat.zero_le _,by decide,rfl,?_⟩
      rw [HR.out]
      simp
     case round =>
      obtain ⟨i,acc,rfl,rfl,hi,hacc,rfl,hr⟩:=hrel
      have Hr:=Lib.hid hr
      clear hr
      by_cases hlt:i<m
      · have hpi2:p+i<s.size:=by omega
        have hpi3:(p:Int)+i<s.size:=by omega
        obtain ⟨c,hc⟩:∃ c,s[p+i]=c:=⟨_,rfl⟩
        have Hd:=Lib.hid (show s.data.toList.drop (p+i)=c::s.data.toList.drop (p+i+1) from by
         rw [List.drop_eq_getElem_cons (by rw [Hl.out];exact hpi2)]
         congr 1)
        have hc256:=c.toNat_lt
        have Ha:=Lib.hid (acc_step acc i c (by omega) hacc)
        have hi2:(i:Int)<m:=by omega
        have hr2:=Hr.out
        rw [Hd.out,show 9-i=(8-i)+1 by omega,rd_step] at hr2
        have Hr2:=Lib.hid hr2
        clear hr2
        have HP:=Lib.hid (show acc*128+c.toNat % 128<128 ^ (i+1) by rw [Nat.pow_succ];have:=Nat.mod_lt c.toNat (show 0<128 by decide);omega)
        clear hacc
        have hpt:((p:Int)+i).toNat=p+i:=by omega
        have hp0:(0:Int)≤(p:Int)+i:=by omega
        by_cases hc1:c.toNat<128
        · have hr3:=Hr2.out
          rw [if_pos hc1] at hr3
          have q:decide ((c.toNat:Int)<128)=true:=decide_eq_true (by omega)
          have q':decide (c.toNat<128)=true:=decide_eq_true hc1
          have Hr3:=Lib.hid hr3
          clear hr3
          go_wp2_with fail
          go_ret3
          rw [Hr3.out,Ha.out,Nat.mod_eq_of_lt hc1]
          refine ⟨?_,rfl⟩
          simp [gotE]
          omega
        · have hr3:=Hr2.out
          rw [if_neg hc1] at hr3
          have q:decide ((c.toNat:Int)<128)=false:=decide_eq_false (by omega)
          have q':decide (c.toNat<128)=false:=decide_eq_false hc1
          have Hr3:=Lib.hid hr3
          clear hr3
          go_wp2_with fail
          go_roundw
          case rel =>
           refine ⟨i+1,acc*128+c.toNat % 128,by go_num,by rw [Ha.out],by omega,HP.out,by trivial,?_⟩
           rw [Hr3.out,show 9-(i+1)=8-i by omega,show p+(i+1)=p+i+1 by omega,show c.toNat % 128=c.toNat-128 by omega]
           cases Var.rd (8-i) (acc*128+(c.toNat-128)) (s.data.toList.drop (p+i+1)) with
           | none => rfl
           | some y => simp only [Option.map_some];rw [show y.2+1+i=y.2+(i+1) by omega]
          case measure => simp [intOf];omega
      · obtain rfl:i=m:=by omega
        have hRn:R=none:=by
         rw [Hr.out]
         rcases Hmm.out with e | e
         · rw [e];rfl
         · rw [List.drop_eq_nil_iff.2 (by rw [Hl.out];omega)]
           cases 9-i <;> rfl
        have HRn:=Lib.hid hRn
        clear hRn
        go_wp2_with fail
        go_ret3
        rw [HRn.out]
        exact ⟨rfl,rfl⟩
 · rw [get_none (by omega)]
   unfold gotE
   have q:decide ((p:Int)<s.size)=false:=decide_eq_false (by omega)
   have q1:(s.size:Int)≤p:=by omega
   clear hs hl
   go_enter Tryz.func145,Tryz.ntmps145
   go_wp2_with fail
   go_ret3
   exact ⟨rfl,rfl⟩
end Go.Proofs.YtdacanghbepjpaaGreatDoor
namespace Go.Proofs.YtdacanghbepjpaaGreatDoor
set_option linter.unusedSimpArgs false
set_option linter.unusedVariables false
set_option maxRecDepth 100000
open Go.RowKit
theorem get_le {s:ByteArray} {p n e:Nat} (h:Var.get s.data.toList p=some (n,e)):e≤s.size∧p<e∧n<9223372036854775808:=by
 obtain ⟨h1,h2,_,_,h5⟩:=Var.get_back h
 rw [Var.pow9] at h5
 exact ⟨by simpa using h1,h2,h5⟩
def txtE (g:Option (List UInt8×Nat)):Ending:=match g with
 | none => .returned (.tuple #[.string ⟨#[]⟩,.int .i64 0,.bool false])
 | some x => .returned (.tuple #[.string ⟨x.1.toArray⟩,.int .i64 x.2,.bool true])
theorem extract_at (s:ByteArray) (a b:Nat):s.extract a b=⟨((s.data.toList.drop a).take (b-a)).toArray⟩:=by
 apply bytes_ext
 rw [extract_list]
theorem getText_any (s:ByteArray) (p:Nat) (w:World) (hs:s.size≤maxLen) (hp:p≤9223372036854775807) :
  Calls Tryz.prog 92 #[.string s,.int .i64 p] w fun e w' => e=txtE (Ed.txt s.data.toList p)∧w=w':=by
 have HG:=Lib.hid (get_any s p w hs hp)
 have hl:s.data.toList.length=s.size:=by simp
 have hsm:s.size≤9223372036854775807:=by unfold maxLen at hs;omega
 cases hg:Var.get s.data.toList p with
 | none =>
  have ht:Ed.txt s.data.toList p=none:=by unfold Ed.txt;rw [hg]
  rw [ht]
  rw [hg] at HG
  unfold gotE at HG
  clear hg ht hl
  go_enter Tryz.func92,Tryz.ntmps92
  go_wp2_with fail
  refine HG.out.mono ?_
  rintro e w' ⟨rfl,rfl⟩
  go_wp2_with fail
  go_ret3
  exact ⟨rfl,rfl⟩
 | some x =>
  obtain ⟨n,q⟩:=x
  obtain ⟨h1,h2,h3⟩:=get_le hg
  rw [hg] at HG
  unfold gotE at HG
  by_cases hn:n≤s.size-q
  · have ht:Ed.txt s.data.toList p=some ((s.data.toList.drop q).take n,q+n):=by unfold Ed.txt;rw [hg];simp only;rw [if_pos (by omega)]
    rw [ht]
    have hx:s.extract q (q+n)=⟨((s.data.toList.drop q).take n).toArray⟩:=by rw [extract_at];congr 2;congr 1;omega
    have n1:¬ ((s.size:Int)-q<n):=by omega
    have n2:(0:Int)≤q:=by omega
    have n3:(q:Int)+n≤s.size:=by omega
    have HX:=Lib.hid hx
    clear hg ht hl hx
    go_enter Tryz.func92,Tryz.ntmps92
    go_wp2_with fail
    refine HG.out.mono ?_
    rintro e w' ⟨rfl,rfl⟩
    try simp only
    go_wp2_with fail
    rw [HX.out]
    go_ret3
    exact ⟨by rw [show (q:Int)+n=((q+n:Nat):Int) by omega];rfl,rfl⟩
  · have ht:Ed.txt s.data.toList p=none:=by unfold Ed.txt;rw [hg];simp only;rw [if_neg (by omega)]
    rw [ht]
    have n1:((s.size:Int)-q<n):=by omega
    clear hg ht hl
    go_enter Tryz.func92,Tryz.ntmps92
    go_wp2_with fail
    refine HG.out.mono ?_
    rintro e w' ⟨rfl,rfl⟩
    try simp only
    go_wp2_with fail
    go_ret3
    exact ⟨rfl,rfl⟩
end Go.Proofs.YtdacanghbepjpaaGreatDoor
namespace Go.Proofs.YtdacanghbepjpaaGreatDoor
set_option linter.unusedSimpArgs false
set_option linter.unusedVariables false
set_option maxRecDepth 100000
open Go.RowKit
theorem cat_r (a:List UInt8) (b:ByteArray):(⟨a.toArray⟩:ByteArray)++b=⟨(a++b.data.toList).toArray⟩:=by
 apply bytes_ext
 simp
theorem size_l (a:List UInt8):(⟨a.toArray⟩:ByteArray).size=a.length:=List.size_toArray
theorem pn_len {n:Int} (h:n<9223372036854775808):(Ed.pn n).length≤9:=by
 unfold Ed.pn Var.putI
 split
 · simp
 · exact Var.put_len_le (by rw [Var.pow9];omega)
def pnB (n:Int):ByteArray:=⟨(Ed.pn n).toArray⟩
theorem pnB_size {n:Int} (h:n<9223372036854775808):(pnB n).size≤9:=by unfold pnB;rw [size_l];exact pn_len h
theorem putP_any (n:Int) (w:World) (h0:0≤n) (h:n<9223372036854775808) :
  Calls Tryz.prog 131 #[.int .i64 n] w fun e w' => e=.returned (.string (pnB n))∧Below w.heap.size w w':=by
 have e:Ed.pn n=Var.putI n:=by unfold Ed.pn;rw [Int.max_eq_left h0]
 unfold pnB
 rw [e]
 exact put_any n w ⟨by omega,by omega⟩
def encTB (t:ByteArray):ByteArray:=⟨(Ed.encT t.data.toList).toArray⟩
theorem list_len' (s:ByteArray):s.data.toList.length=s.size:=by simp
theorem putText_any (t:ByteArray) (w:World) (ht:t.size≤1000000) :
  Calls Tryz.prog 133 #[.string t] w fun e w' => e=.returned (.string (encTB t))∧Below w.heap.size w w':=by
 have hp:=putP_any t.size w (by omega) (by omega)
 have hs:=pnB_size (n:=t.size) (by omega)
 have he:pnB t.size++t=encTB t:=by
  unfold pnB encTB Ed.encT
  rw [cat_r,list_len']
 obtain ⟨P,hP⟩:∃ P,P=pnB t.size:=⟨_,rfl⟩
 rw [← hP] at hp hs he
 have HP:=Lib.hid hp
 have HE:=Lib.hid he
 clear hp hP he
 go_enter Tryz.func133,Tryz.ntmps133
 go_wp2_with fail
 refine HP.out.mono ?_
 rintro e w1 ⟨rfl,hb⟩
 go_wp2_with fail
 go_ret
 rw [HE.out]
 exact ⟨rfl,hb⟩
theorem encT_len (t:ByteArray) (h:t.size≤1000000):(encTB t).size≤9+t.size:=by
 unfold encTB Ed.encT
 rw [size_l,List.length_append,list_len']
 have:=pn_len (n:=t.size) (by omega)
 omega
end Go.Proofs.YtdacanghbepjpaaGreatDoor
namespace Go.Proofs.YtdacanghbepjpaaGreatDoor
set_option maxRecDepth 100000
open Go.RowKit
theorem cat_list (a b:List UInt8):(⟨a.toArray⟩:ByteArray)++⟨b.toArray⟩=⟨(a++b).toArray⟩:=by
 apply bytes_ext
 rw [data_append]
def curV (a b:Int):Value:=.agg #[.int .i64 a,.int .i64 b]
theorem may_any (a b:Int) (w:World):Calls Tryz.prog 172 #[curV a b] w fun e w' => e=.returned (.bool (decide (Cur.May a b)))∧Below w.heap.size w w':=by
 unfold curV
 go_enter Tryz.func172,Tryz.ntmps172
 go_wp2_with fail
 · go_ret
   refine ⟨?_,(Below.refl _ _).alloc (Nat.le_refl _) _⟩
   have:decide (max a b≤2147483647)=decide (Cur.May a b):=decide_eq_decide.2 (by unfold Cur.May;omega)
   rw [← this];rfl
 · go_ret
   refine ⟨?_,(Below.refl _ _).alloc (Nat.le_refl _) _⟩
   have:decide (Cur.May a b)=false:=decide_eq_false (by unfold Cur.May;omega)
   rw [this];rfl
set_option maxHeartbeats 1000000 in
theorem encode_any (a b:Int) (w:World) (ha:-9223372036854775808≤a∧a≤9223372036854775807) (hb:-9223372036854775808≤b∧b≤9223372036854775807) :
  Calls Tryz.prog 170 #[curV a b] w fun e w' => e=.returned (.tuple #[.string ⟨(Cur.enc a b).1.toArray⟩,.int .i64 (Cur.enc a b).2])∧Below w.heap.size w w':=by
 have Hm:=Lib.hid (fun W:World => may_any a b W)
 unfold curV at Hm ⊢
 by_cases hm:Cur.May a b
 · rw [decide_eq_true hm] at Hm
   rw [Cur.enc_some hm]
   have hl1:=Var.put_len_le (Cur.may_lt ⟨hm.1,hm.2.1⟩)
   have hl2:=Var.put_len_le (Cur.may_lt hm.2.2)
   have e1:Var.putI a=Var.put a.toNat:=by unfold Var.putI;rw [if_neg (by have:=hm.1;omega)]
   have e2:Var.putI b=Var.put b.toNat:=by unfold Var.putI;rw [if_neg (by have:=hm.2.2.1;omega)]
   rw [← e1,← e2]
   rw [← e1] at hl1
   rw [← e2] at hl2
   obtain ⟨pt,hpt⟩:∃ pt:Int→ByteArray,pt=fun n => ⟨(Var.putI n).toArray⟩:=⟨_,rfl⟩
   have hss:(pt a).size≤9:=by rw [hpt];exact Nat.le_trans (Nat.le_of_eq List.size_toArray) hl1
   have htt:(pt b).size≤9:=by rw [hpt];exact Nat.le_trans (Nat.le_of_eq List.size_toArray) hl2
   have Hst:=Lib.hid (show (⟨#[67]⟩:ByteArray)++pt a++pt b=⟨(67::(Var.putI a++Var.putI b)).toArray⟩ from by
    rw [hpt,show (⟨#[67]⟩:ByteArray)=⟨([67]:List UInt8).toArray⟩ from rfl,cat_list,cat_list];rfl)
   have HP:=Lib.hid (show ∀ (W:World) (n:Int),(n=a∨n=b)→Calls Tryz.prog 131 #[.int .i64 n] W fun e w' => e=.returned (.string (pt n))∧Below W.heap.size W w' from fun W n hn => by
    rw [hpt]
    exact put_any n W (by rcases hn with rfl | rfl <;> assumption))
   clear hl1 hl2 hpt hm e1 e2 ha hb
   go_enter Tryz.func170,Tryz.ntmps170
   go_wp2_with fail
   refine (Hm.out _).mono ?_
   rintro e w1 ⟨rfl,hb1⟩
   have Hb1:=Lib.hid (((Below.refl w.heap.size w).alloc (Nat.le_refl _) _).trans (hb1.mono (by simp)))
   have c0:w1.cell? ⟨w.heap.size,0,none⟩=some (.int .i64 a):=(hb1.cell (p:=⟨w.heap.size,0,none⟩) (by simp)).trans ((Blk.alloc_new w _ _).cell 0)
   have c1:w1.cell? ⟨w.heap.size,1,none⟩=some (.int .i64 b):=(hb1.cell (p:=⟨w.heap.size,1,none⟩) (by simp)).trans ((Blk.alloc_new w _ _).cell 1)
   have hlt:w.heap.size<w1.heap.size:=by have:=hb1.size;simp at this;omega
   have d0:=fun x:Ext w1 => (x.le.cell (p:=⟨w.heap.size,0,none⟩) hlt).trans c0
   have d1:=fun x:Ext w1 => (x.le.cell (p:=⟨w.heap.size,1,none⟩) hlt).trans c1
   have HX:=Lib.hid (fun (x:Ext w1) (n:Int) (hn:n=a∨n=b) => HP.out x.wd n hn)
   clear hb1 c0 c1
   go_wp2_with fail
   refine wp_region_ext (by kernel_rfl) (by kernel_rfl) fun K hK => ?_
   repeat (go_big_quiet_step ((go_at_call 131;exact Calls.ext_of (HX.out _ _ (by first | exact .inl rfl | exact .inr rfl)))))
   refine wpQuiet_nil (hK _ fun x => ?_)
   clear hK K
   have Hx:=Lib.hid (Hb1.out.trans (x.le.mono (Nat.le_of_lt hlt)))
   go_wp2_with fail
   go_ret2
   rw [← Hst.out]
   exact ⟨rfl,Hx.out⟩
 · rw [decide_eq_false hm] at Hm
   rw [Cur.enc_none hm]
   clear hm
   go_enter Tryz.func170,Tryz.ntmps170
   go_wp2_with fail
   refine (Hm.out _).mono ?_
   rintro e w1 ⟨rfl,hb1⟩
   have Hb1:=Lib.hid (((Below.refl w.heap.size w).alloc (Nat.le_refl _) _).trans (hb1.mono (by simp)))
   clear hb1
   go_wp2_with fail
   go_ret2
   exact ⟨rfl,Hb1.out⟩
end Go.Proofs.YtdacanghbepjpaaGreatDoor
namespace Go.Proofs.YtdacanghbepjpaaGreatDoor
set_option maxRecDepth 100000
open Go.RowKit
def got (g:Option (Nat×Nat)):Nat×Nat×Bool:=match g with | none => (0,0,false) | some x => (x.1,x.2,true)
theorem gotE_eq (g:Option (Nat×Nat)):gotE g=.returned (.tuple #[.int .i64 (got g).1,.int .i64 (got g).2.1,.bool (got g).2.2]):=by cases g <;> rfl
theorem got_le (s:List UInt8) (p:Nat):(got (Var.get s p)).2.1≤s.length:=by
 cases h:Var.get s p with
 | none => exact Nat.zero_le _
 | some x => exact (Var.get_back (n:=x.1) (e:=x.2) h).1
def st1 (s:List UInt8) (head:Bool):Nat×Nat×Nat×Bool:=if head then ((got (Var.get s 1)).1,0,(got (Var.get s 1)).2.1,(got (Var.get s 1)).2.2) else (0,0,1,false)
def st2 (s:List UInt8) (x:Nat×Nat×Nat×Bool):Nat×Nat×Nat×Bool:=if x.2.2.2 then (x.1,(got (Var.get s x.2.2.1)).1,(got (Var.get s x.2.2.1)).2.1,(got (Var.get s x.2.2.1)).2.2) else x
def headB (s:List UInt8):Bool:=decide (s[0]?=some 67)
def endD (s:List UInt8) (x:Nat×Nat×Nat×Bool):(Int×Int)×Int:=if x.2.2.2=true∧x.2.2.1=s.length∧Cur.May x.1 x.2.1 then (((x.1:Int),(x.2.1:Int)),0) else ((0,0),30)
theorem decR_eq (s:List UInt8):Cur.decR s=endD s (st2 s (st1 s (headB s))):=by
 unfold Cur.decR Cur.dec headB
 by_cases h:s[0]?=some 67
 · rw [if_pos h,decide_eq_true h]
   cases h1:Var.get s 1 with
   | none => simp [st1,st2,endD,h1,got]
   | some x =>
    obtain ⟨n,p⟩:=x
    simp only
    cases h2:Var.get s p with
    | none => simp [st1,st2,endD,h1,h2,got]
    | some y =>
     obtain ⟨g,e⟩:=y
     simp only [st1,st2,endD,h1,h2,got,if_true,true_and]
     by_cases hh:e=s.length∧Cur.May n g
     · rw [if_pos hh,if_pos hh]
     · rw [if_neg hh,if_neg hh]
 · rw [if_neg h,decide_eq_false h]
   simp [st1,st2,endD]
theorem st1_at (s:List UInt8) (h:Bool) (hk:(st1 s h).2.2.2=true):(st1 s h).2.2.1≤s.length:=by
 unfold st1 at *
 split
 · exact got_le s 1
 · rename_i hh;rw [if_neg hh] at hk;cases hk
theorem dec_blocks (w:World) (nq:Nat):∀ w3,w3=((((w.alloc (.cells #[.int .i64 0,.int .i64 0] 30 (0,0))).alloc (.cells #[.int .i64 0,.int .i64 0] 30 (0,0))).drewN nq).alloc (.cells #[.pointer (some ⟨w.heap.size+1,0,none⟩),.pointer (some ⟨w.heap.size+1,1,none⟩)] 142 (0,0))) →
  Blk w3 w.heap.size 30 #[.int .i64 0,.int .i64 0]∧Blk w3 (w.heap.size+1) 30 #[.int .i64 0,.int .i64 0]∧Blk w3 (w.heap.size+1+1) 142 #[.pointer (some ⟨w.heap.size+1,0,none⟩),.pointer (some ⟨w.heap.size+1,1,none⟩)]∧Below w.heap.size w w3:=by
 intro w3 h
 obtain ⟨w1,h1⟩:∃ w1,w1=w.alloc (.cells #[.int .i64 0,.int .i64 0] 30 (0,0)):=⟨_,rfl⟩
 have z1:w1.heap.size=w.heap.size+1:=by rw [h1];simp
 have b1:Blk w1 w.heap.size 30 #[.int .i64 0,.int .i64 0]:=by rw [h1];exact Blk.alloc_new w _ _
 have l1:Below w.heap.size w w1:=by rw [h1];exact (Below.refl _ _).alloc (Nat.le_refl _) _
 rw [← h1] at h
 obtain ⟨w2,h2⟩:∃ w2,w2=(w1.alloc (.cells #[.int .i64 0,.int .i64 0] 30 (0,0))).drewN nq:=⟨_,rfl⟩
 have z2:w2.heap.size=w.heap.size+1+1:=by rw [h2,← z1];show (World.alloc _ _).heap.size=_;simp
 have b2:Blk w2 (w.heap.size+1) 30 #[.int .i64 0,.int .i64 0]:=by rw [h2,← z1];exact Blk.drewN (Blk.alloc_new w1 _ _) nq
 have l2:Below w1.heap.size w1 w2:=by rw [h2];exact below_drewN ((Below.refl _ _).alloc (Nat.le_refl _) _) nq
 rw [← h2] at h
 have l3:Below w2.heap.size w2 w3:=by rw [h];exact (Below.refl _ _).alloc (Nat.le_refl _) _
 have b3:Blk w3 (w.heap.size+1+1) 142 #[.pointer (some ⟨w.heap.size+1,0,none⟩),.pointer (some ⟨w.heap.size+1,1,none⟩)]:=by rw [h,← z2];exact Blk.alloc_new w2 _ _
 exact ⟨(b1.below l2).below l3,b2.below l3,b3,(l1.trans (l2.mono (by omega))).trans (l3.mono (by omega))⟩
theorem Blk.set_ne {w:World} {b:Nat} {t:TypeId} {cs:Array Value} (h:Blk w b t cs) (b' i:Nat) (u:Value) (hne:b≠b'):Blk (w.setCell ⟨b',i,none⟩ u) b t cs:=by
 unfold Blk at *
 rw [Below.heap_setCell _ _ _ _ hne,h]
theorem cur_two {w:World} {b:Nat} {t:TypeId} {x y:Value} (h:Blk w b t #[x,y]) (u v:Value):Blk ((w.setCell ⟨b,0,none⟩ u).setCell ⟨b,1,none⟩ v) b t #[u,v]:=(h.set 0 u).set 1 v
set_option maxHeartbeats 2000000 in
theorem decode_any (s:ByteArray) (w:World) (hs:s.size≤maxLen) :
  Calls Tryz.prog 126 #[.string s] w fun e w' => e=.returned (.tuple #[curV (Cur.decR s.data.toList).1.1 (Cur.decR s.data.toList).1.2,.int .i64 (Cur.decR s.data.toList).2])∧Below w.heap.size w w':=by
 have hl:s.data.toList.length=s.size:=by simp
 have hsm:s.size≤9223372036854775807:=by unfold maxLen at hs;omega
 have hfin:=decR_eq s.data.toList
 have HG:=Lib.hid (fun (p:Nat) (W:World) (hp:p≤s.data.toList.length) => get_any s p W hs (by omega))
 obtain ⟨hd,hhd⟩:∃ hd,hd=headB s.data.toList:=⟨_,rfl⟩
 rw [← hhd] at hfin
 obtain ⟨R,hR⟩:∃ R,R=Cur.decR s.data.toList:=⟨_,rfl⟩
 rw [← hR] at hfin ⊢
 unfold curV
 have HR:=Lib.hid hfin
 clear hR
 have hh1:hd=true→1≤s.data.toList.length:=by
  intro e
  rw [hhd] at e
  unfold headB at e
  have:=of_decide_eq_true e
  exact (List.getElem?_eq_some_iff.1 this).1
 have Hh1:=Lib.hid hh1
 have hq:(0<s.size∧((s.extract 0 1).toList == [67])=hd)∨(s.size=0∧hd=false):=by
  rcases Nat.eq_zero_or_pos s.size with h | h
  · refine .inr ⟨h,?_⟩
    cases hd with
    | false => rfl
    | true => have:=hh1 rfl;omega
  · refine .inl ⟨h,?_⟩
    rw [hhd]
    unfold headB
    have e:(s.extract 0 1).toList=s.data.toList.take 1:=by rw [ByteArray.toList_eq,extract_list];simp
    rw [e]
    cases hc:s.data.toList with
    | nil => rw [hc] at hl;simp at hl;omega
    | cons c r => simp;rfl
 clear hh1 hhd hfin hl hs
 rcases hq with ⟨hz,q2⟩ | ⟨hz,hd0⟩
 case' inl =>
  have q1:(1:Int)≤s.size:=by omega
  have q3:decide ((0:Int)<s.size)=true:=decide_eq_true (by omega)
  have q3':decide (0<s.size)=true:=decide_eq_true (by omega)
  go_enter Tryz.func126,Tryz.ntmps126
  go_wp2_with fail
  go_quiet (fail)
  have Hd0:=Lib.hid (rfl:hd=hd)
  clear q1 q2 q3 q3' hz
 case' inr =>
  have q3:decide ((0:Int)<s.size)=false:=decide_eq_false (by omega)
  have q3':decide (0<s.size)=false:=decide_eq_false (by omega)
  go_enter Tryz.func126,Tryz.ntmps126
  go_wp2_with fail
  go_quiet (fail)
  have Hd0:=Lib.hid hd0.symm
  clear q3 q3' hz hd0
 all_goals
  go_wp2_with fail
  have hdb:=dec_blocks w nq
  obtain ⟨w3,hw3⟩:∃ w3,w3=((((w.alloc (.cells #[.int .i64 0,.int .i64 0] 30 (0,0))).alloc (.cells #[.int .i64 0,.int .i64 0] 30 (0,0))).drewN nq).alloc (.cells #[.pointer (some ⟨w.heap.size+1,0,none⟩),.pointer (some ⟨w.heap.size+1,1,none⟩)] 142 (0,0))):=⟨_,rfl⟩
  rw [← hw3]
  have HDB:=Lib.hid (hdb w3 hw3)
  clear hdb hw3
  go_loopw [5,6,8,21] (fun v5 v6 _ v21 wr => ∃ (k n0 n1 p:Nat) (ok:Bool),k≤2∧v21=.int .i64 k∧v5=.int .i64 p∧v6=.bool ok∧((k=0∧(n0,n1,p,ok)=(0,0,1,hd))∨(k=1∧(n0,n1,p,ok)=st1 s.data.toList hd)∨(k=2∧(n0,n1,p,ok)=st2 s.data.toList (st1 s.data.toList hd))) ∧
   Blk wr w.heap.size 30 #[.int .i64 0,.int .i64 0]∧Blk wr (w.heap.size+1) 30 #[.int .i64 n0,.int .i64 n1]∧Blk wr (w.heap.size+1+1) 142 #[.pointer (some ⟨w.heap.size+1,0,none⟩),.pointer (some ⟨w.heap.size+1,1,none⟩)]∧Below w.heap.size w wr) (fun _ _ _ v21 _ => 2-(intOf v21).toNat)
  case atStart => exact ⟨0,0,0,1,_,by omega,rfl,rfl,rfl,.inl ⟨rfl,by first | rfl | rw [Hd0.out]⟩,HDB.out.1,HDB.out.2.1,HDB.out.2.2.1,HDB.out.2.2.2⟩
  case round =>
   obtain ⟨k,n0,n1,p,ok,hk,rfl,rfl,rfl,hst,b0,b1,b2,hbe⟩:=hrel
   have c0:=b1.cell 0
   have c1:=b1.cell 1
   have f0:=b1.free 0
   have f1:=b1.free 1
   have g0:=b2.cell 0
   have g1:=b2.cell 1
   simp at c0 c1 g0 g1
   have B0:=Lib.hid b0
   have B1:=Lib.hid b1
   have B2:=Lib.hid b2
   have Hbe:=Lib.hid hbe
   clear b0 b1 b2 hbe
   rcases hst with ⟨rfl,he⟩ | ⟨rfl,he⟩ | ⟨rfl,he⟩
   · simp only [Prod.mk.injEq] at he
     obtain ⟨rfl,rfl,rfl,rfl⟩:=he
     cases hok:ok with
     | false =>
      have Hst:=Lib.hid (show ((0:Nat),(0:Nat),(1:Nat),false)=st1 s.data.toList false from rfl)
      clear hok
      go_wp2_with fail
      go_roundw
      case rel => exact ⟨1,0,0,1,false,by omega,by go_num,rfl,rfl,.inr (.inl ⟨rfl,Hst.out⟩),B0.out,B1.out,B2.out,Hbe.out⟩
      case measure => simp [intOf]
     | true =>
      have hg:=HG.out 1 wr (Hh1.out hok)
      rw [gotE_eq] at hg
      have Hst:=Lib.hid (show ((got (Var.get s.data.toList 1)).1,(0:Nat),(got (Var.get s.data.toList 1)).2.1,(got (Var.get s.data.toList 1)).2.2)=st1 s.data.toList true from rfl)
      generalize got (Var.get s.data.toList 1)=G at hg Hst
      obtain ⟨n,e,o⟩:=G
      have Hg:=Lib.hid hg
      clear hg hok
      go_wp2_with fail
      refine Hg.out.mono ?_
      rintro e' w4 ⟨rfl,rfl⟩
      go_wp2_with fail
      have H1:=Lib.hid (B1.out.set 0 (.int .i64 n))
      have H0:=Lib.hid (Blk.set_ne B0.out (w.heap.size+1) 0 (.int .i64 n) (by omega))
      have H2:=Lib.hid (Blk.set_ne B2.out (w.heap.size+1) 0 (.int .i64 n) (by omega))
      go_roundw
      case rel => exact ⟨1,n,0,e,o,by omega,by go_num,rfl,rfl,.inr (.inl ⟨rfl,Hst.out⟩),H0.out,H1.out,H2.out,Hbe.out.setCell (p:=⟨w.heap.size+1,0,none⟩) (by show _≤w.heap.size+1;omega) _⟩
      case measure => simp [intOf]
   · cases hok:ok with
     | false =>
      have Hst:=Lib.hid (show (n0,n1,p,false)=st2 s.data.toList (st1 s.data.toList hd) from by rw [← he,hok];rfl)
      clear hok he
      go_wp2_with fail
      go_roundw
      case rel => exact ⟨2,n0,n1,p,false,by omega,by go_num,rfl,rfl,.inr (.inr ⟨rfl,Hst.out⟩),B0.out,B1.out,B2.out,Hbe.out⟩
      case measure => simp [intOf]
     | true =>
      have hp:p≤s.data.toList.length:=by
       have:=st1_at s.data.toList hd (by rw [← he];exact hok)
       rw [← he] at this
       exact this
      have hg:=HG.out p wr hp
      rw [gotE_eq] at hg
      have Hst:=Lib.hid (show (n0,(got (Var.get s.data.toList p)).1,(got (Var.get s.data.toList p)).2.1,(got (Var.get s.data.toList p)).2.2)=st2 s.data.toList (st1 s.data.toList hd) from by rw [← he,hok];rfl)
      generalize got (Var.get s.data.toList p)=G at hg Hst
      obtain ⟨n,e,o⟩:=G
      have Hg:=Lib.hid hg
      clear hg hok he hp
      go_wp2_with fail
      refine Hg.out.mono ?_
      rintro e' w4 ⟨rfl,rfl⟩
      go_wp2_with fail
      have H1:=Lib.hid (B1.out.set 1 (.int .i64 n))
      have H0:=Lib.hid (Blk.set_ne B0.out (w.heap.size+1) 1 (.int .i64 n) (by omega))
      have H2:=Lib.hid (Blk.set_ne B2.out (w.heap.size+1) 1 (.int .i64 n) (by omega))
      go_roundw
      case rel => exact ⟨2,n0,n,e,o,by omega,by go_num,rfl,rfl,.inr (.inr ⟨rfl,Hst.out⟩),H0.out,H1.out,H2.out,Hbe.out.setCell (p:=⟨w.heap.size+1,1,none⟩) (by show _≤w.heap.size+1;omega) _⟩
      case measure => simp [intOf]
   · have hr:=HR.out
     rw [← he] at hr
     unfold endD at hr
     simp only at hr
     clear he
     have e0:=B0.out.cell 0
     have e1:=B0.out.cell 1
     have h0:=B0.out.free 0
     have h1:=B0.out.free 1
     simp at e0 e1
     have HW0:=Lib.hid (cur_two B0.out (.int .i64 0) (.int .i64 0))
     have HWb0:=Lib.hid ((Hbe.out.setCell (p:=⟨w.heap.size,0,none⟩) (Nat.le_refl _) (.int .i64 0)).setCell (p:=⟨w.heap.size,1,none⟩) (Nat.le_refl _) (.int .i64 0))
     have hl':s.data.toList.length=s.size:=by simp
     cases hok:ok with
     | false =>
      rw [if_neg (by rw [hok];simp)] at hr
      have Hr:=Lib.hid hr
      clear hr hok hl'
      go_wp2_with fail
      generalize ((wr.setCell ⟨w.heap.size,0,none⟩ (.int .i64 0)).setCell ⟨w.heap.size,1,none⟩ (.int .i64 0))=w4 at HW0 HWb0 ⊢
      have k0:=HW0.out.cell 0
      have k1:=HW0.out.cell 1
      simp at k0 k1
      refine bodyPost_ret (v:=.tuple #[.agg #[.int .i64 0,.int .i64 0],.int .i64 30]) (by simp [results,Tryz.results126,go_sem,k0,k1]) rfl ⟨by rw [Hr.out],HWb0.out⟩
     | true =>
      have Hl:=Lib.hid hl'
      by_cases hpe:p=s.size
      · have qp:((p:Int) != s.size)=false:=by rw [hpe];simp
        have qp':(p != s.size)=false:=by rw [hpe];simp
        have hmay:=fun W:World => may_any (n0:Int) (n1:Int) W
        unfold curV at hmay
        by_cases hm:Cur.May n0 n1
        · rw [if_pos ⟨hok,by rw [Hl.out];exact hpe,hm⟩] at hr
          rw [decide_eq_true hm] at hmay
          have Hr:=Lib.hid hr
          have Hm:=Lib.hid hmay
          clear hr hok hmay hm hpe hl'
          go_wp2_with fail
          refine (Hm.out _).mono ?_
          rintro e w5 ⟨rfl,hb5⟩
          have c0':=(hb5.cell (p:=⟨w.heap.size+1,0,none⟩) B1.out.lt).trans c0
          have c1':=(hb5.cell (p:=⟨w.heap.size+1,1,none⟩) B1.out.lt).trans c1
          have b5:=B0.out.below hb5
          have h0':=b5.free 0
          have h1':=b5.free 1
          have e0':=b5.cell 0
          have e1':=b5.cell 1
          simp at e0' e1'
          have HW5:=Lib.hid (cur_two b5 (.int .i64 n0) (.int .i64 n1))
          have HWb5:=Lib.hid ((((Hbe.out.trans (hb5.mono Hbe.out.size))).setCell (p:=⟨w.heap.size,0,none⟩) (Nat.le_refl _) (.int .i64 n0)).setCell (p:=⟨w.heap.size,1,none⟩) (Nat.le_refl _) (.int .i64 n1))
          clear hb5 b5
          go_wp2_with fail
          generalize ((w5.setCell ⟨w.heap.size,0,none⟩ (.int .i64 n0)).setCell ⟨w.heap.size,1,none⟩ (.int .i64 n1))=w4 at HW5 HWb5 ⊢
          have k0:=HW5.out.cell 0
          have k1:=HW5.out.cell 1
          simp at k0 k1
          refine bodyPost_ret (v:=.tuple #[.agg #[.int .i64 n0,.int .i64 n1],.int .i64 0]) (by simp [results,Tryz.results126,go_sem,k0,k1]) rfl ⟨by rw [Hr.out],HWb5.out⟩
        · rw [if_neg (fun e => hm e.2.2)] at hr
          rw [decide_eq_false hm] at hmay
          have Hr:=Lib.hid hr
          have Hm:=Lib.hid hmay
          clear hr hok hmay hm hpe hl'
          go_wp2_with fail
          refine (Hm.out _).mono ?_
          rintro e w5 ⟨rfl,hb5⟩
          have b5:=B0.out.below hb5
          have h0':=b5.free 0
          have h1':=b5.free 1
          have e0':=b5.cell 0
          have e1':=b5.cell 1
          simp at e0' e1'
          have HW5:=Lib.hid (cur_two b5 (.int .i64 0) (.int .i64 0))
          have HWb5:=Lib.hid ((((Hbe.out.trans (hb5.mono Hbe.out.size))).setCell (p:=⟨w.heap.size,0,none⟩) (Nat.le_refl _) (.int .i64 0)).setCell (p:=⟨w.heap.size,1,none⟩) (Nat.le_refl _) (.int .i64 0))
          clear hb5 b5
          go_wp2_with fail
          generalize ((w5.setCell ⟨w.heap.size,0,none⟩ (.int .i64 0)).setCell ⟨w.heap.size,1,none⟩ (.int .i64 0))=w4 at HW5 HWb5 ⊢
          have k0:=HW5.out.cell 0
          have k1:=HW5.out.cell 1
          simp at k0 k1
          refine bodyPost_ret (v:=.tuple #[.agg #[.int .i64 0,.int .i64 0],.int .i64 30]) (by simp [results,Tryz.results126,go_sem,k0,k1]) rfl ⟨by rw [Hr.out],HWb5.out⟩
      · have qp:((p:Int) != s.size)=true:=by rw [bne_iff_ne];omega
        have qp':(p != s.size)=true:=by rw [bne_iff_ne];exact hpe
        rw [if_neg (fun e => hpe (by rw [← Hl.out];exact e.2.1))] at hr
        have Hr:=Lib.hid hr
        clear hr hok hpe hl'
        go_wp2_with fail
        generalize ((wr.setCell ⟨w.heap.size,0,none⟩ (.int .i64 0)).setCell ⟨w.heap.size,1,none⟩ (.int .i64 0))=w4 at HW0 HWb0 ⊢
        have k0:=HW0.out.cell 0
        have k1:=HW0.out.cell 1
        simp at k0 k1
        refine bodyPost_ret (v:=.tuple #[.agg #[.int .i64 0,.int .i64 0],.int .i64 30]) (by simp [results,Tryz.results126,go_sem,k0,k1]) rfl ⟨by rw [Hr.out],HWb0.out⟩
end Go.Proofs.YtdacanghbepjpaaGreatDoor
namespace Go.Proofs.YtdacanghbepjpaaGreatDoor
set_option maxRecDepth 100000
open Go.RowKit Go.Maps
open Dsk
theorem keepR_none (w:World) (S:Nat→Prop):KeepR w S (.slice none 0 0) []:=⟨none,0,rfl,fun _ => rfl,fun j hj => absurd hj (by simp)⟩
section
variable {w0 w:World} {X:Nat→Prop} {v:Value} {d:Dk}
set_option maxHeartbeats 2000000 in
theorem Live.save (h:Live w0 X w v d) (a b:Int) (ha:-9223372036854775808≤a∧a≤9223372036854775807) (hb:-9223372036854775808≤b∧b≤9223372036854775807) :
  Calls Tryz.prog 124 #[v,curV a b] w fun e w' => e=.returned (.int .i64 (saveD d a b).1)∧Live w0 X w' v (saveD d a b).2∧Keeps X w w':=by
 obtain ⟨bd,rfl⟩:=h.ptr
 have HE:=Lib.hid (fun W:World => encode_any a b W ha hb)
 obtain ⟨R,hR⟩:∃ R,R=saveD d a b:=⟨_,rfl⟩
 rw [← hR]
 unfold curV at HE ⊢
 obtain ⟨w1,hw1⟩:∃ w1,w1=w.alloc (.cells #[.int .i64 a,.int .i64 b] 30 (0,0)):=⟨_,rfl⟩
 have hb1:Below w.heap.size w w1:=by rw [hw1];exact (Below.refl _ _).alloc (Nat.le_refl _) _
 have hk1:Blk w1 w.heap.size 30 #[.int .i64 a,.int .i64 b]:=by rw [hw1];exact Blk.alloc_new w _ _
 have H1:=Lib.hid (h.keep hb1)
 have HK1:=Lib.hid (Keeps.below (X:=X) hb1)
 have hup:=H1.out.up
 have c0:=hk1.cell 0
 have c1:=hk1.cell 1
 simp at c0 c1
 have HW1:=Lib.hid hw1
 have Hb1:=Lib.hid hb1
 unfold saveD at hR
 clear h hb1 hk1 hw1 ha hb
 cases hoff:d.off with
 | true =>
  rw [hoff] at hup
  rw [if_pos hoff] at hR
  have HR:=Lib.hid hR
  have Hf:=Lib.hid (H1.out.fail (-1) (by decide) _ [] (keepR_none w1 (fun _ => False)) (by simp))
  rw [show d.failAt (-1) []=(51,d) from by unfold Dk.failAt;rw [if_pos hoff]] at Hf
  have Hup:=Lib.hid hup
  clear hR hoff hup
  go_enter Tryz.func124,Tryz.ntmps124
  go_wp2_with fail
  rw [← HW1.out]
  refine Hup.out.mono ?_
  rintro e w1' ⟨rfl,rfl⟩
  go_wp2_with fail
  refine Hf.out.mono ?_
  rintro e w2 ⟨rfl,hl2,hk2⟩
  have HL2:=Lib.hid hl2
  have HK2:=Lib.hid (HK1.out.trans hk2)
  clear hl2 hk2
  go_wp2_with fail
  go_ret
  rw [HR.out]
  exact ⟨rfl,HL2.out,HK2.out⟩
 | false =>
  rw [hoff] at hup
  rw [if_neg (by rw [hoff];decide)] at hR
  have Hup:=Lib.hid hup
  by_cases hm:Cur.May a b
  · rw [if_neg (by simp [hm])] at hR
    have hen:=Cur.enc_some hm
    have hlen:=Cur.enc_length a b
    obtain ⟨s,hs⟩:∃ s:ByteArray,s=⟨(Cur.enc a b).1.toArray⟩:=⟨_,rfl⟩
    have hss:s.size≤19:=by rw [hs];exact Nat.le_trans (Nat.le_of_eq List.size_toArray) hlen
    have hsd:s.data.toList=(Cur.enc a b).1:=by rw [hs]
    have h2:(Cur.enc a b).2=0:=by rw [hen]
    rw [← hsd] at hR
    rw [← hs,h2] at HE
    have HR:=Lib.hid hR
    have Hrm:=Lib.hid (fun (W:World) (l:Live w0 X W (.pointer (some ⟨bd,0,none⟩)) d) => l.remove ⟨#[99,117,114,115,111,114,43]⟩ (lit_le (by decide)))
    have hn7:(⟨#[99,117,114,115,111,114,43]⟩:ByteArray).data.toList=draN:=rfl
    have hn6:(⟨#[99,117,114,115,111,114]⟩:ByteArray).data.toList=curN:=rfl
    rw [hn7] at Hrm
    have Hn7:=Lib.hid hn7
    have Hn6:=Lib.hid hn6
    clear hR hoff hup hen hlen hs hsd h2 hm hn7 hn6
    go_enter Tryz.func124,Tryz.ntmps124
    go_wp2_with fail
    rw [← HW1.out]
    refine Hup.out.mono ?_
    rintro e w1' ⟨rfl,rfl⟩
    go_wp2_with fail
    refine (HE.out _).mono ?_
    rintro e w2 ⟨rfl,hb2⟩
    have H2:=Lib.hid (H1.out.keep hb2)
    have HK2:=Lib.hid (HK1.out.trans (Keeps.below hb2))
    clear hb2 c0 c1
    go_wp2_with fail
    refine (Hrm.out _ H2.out).mono ?_
    rintro e w3 ⟨rfl,hl3,hk3⟩
    have hr:=HR.out
    generalize d.remove draN=r1 at hr hl3 ⊢
    obtain ⟨e1,d1⟩:=r1
    simp only at hr hl3 ⊢
    have H3:=Lib.hid hl3
    have HK3:=Lib.hid (HK2.out.trans hk3)
    clear hl3 hk3
    by_cases hbad:e1≠0∧e1≠4
    · rw [if_pos hbad] at hr
      obtain ⟨hx1,hx2⟩:=hbad
      have q1:(e1 != 0)=true:=by rw [bne_iff_ne];exact hx1
      have q2:(e1 != 4)=true:=by rw [bne_iff_ne];exact hx2
      have Hr:=Lib.hid hr
      clear hr hx1 hx2
      go_wp2_with fail
      go_ret
      rw [Hr.out]
      exact ⟨rfl,H3.out,HK3.out⟩
    · rw [if_neg hbad] at hr
      have Hap:=Lib.hid (H3.out.append ⟨#[99,117,114,115,111,114,43]⟩ s (lit_le (by decide)) (lit_le (by omega)))
      rw [Hn7.out] at Hap
      have h04:e1=0∨e1=4:=by
       by_cases h:e1=0
       · exact .inl h
       · exact .inr (Classical.not_not.1 fun h4 => hbad ⟨h,h4⟩)
      have HRR:=Lib.hid hr
      clear hbad hr
      rcases h04 with rfl | rfl
      all_goals
       go_wp2_with fail
       refine Hap.out.mono ?_
       rintro e w4 ⟨rfl,hl4,hk4⟩
       have hr:=HRR.out
       generalize d1.append draN s.data.toList=r2 at hr hl4 ⊢
       obtain ⟨e2,d2⟩:=r2
       simp only at hr hl4 ⊢
       have H4:=Lib.hid hl4
       have HK4:=Lib.hid (HK3.out.trans hk4)
       clear hl4 hk4
       by_cases h2:e2=0
       case neg =>
        rw [if_pos h2] at hr
        have q2:(e2 != 0)=true:=by rw [bne_iff_ne];exact h2
        have Hr:=Lib.hid hr
        clear hr h2
        go_wp2_with fail
        go_ret
        rw [Hr.out]
        exact ⟨rfl,H4.out,HK4.out⟩
       subst h2
       rw [if_neg (by simp)] at hr
       have hsy:=H4.out.sync ⟨#[99,117,114,115,111,114,43]⟩ (lit_le (by decide))
       rw [Hn7.out] at hsy
       have Hsy:=Lib.hid hsy
       have HR3:=Lib.hid hr
       clear hr hsy
       go_wp2_with fail
       refine Hsy.out.mono ?_
       rintro e w5 ⟨rfl,hl5,hk5⟩
       have hr:=HR3.out
       generalize d2.sync draN=r3 at hr hl5 ⊢
       obtain ⟨e3,d3⟩:=r3
       simp only at hr hl5 ⊢
       have H5:=Lib.hid hl5
       have HK5:=Lib.hid (HK4.out.trans hk5)
       clear hl5 hk5
       by_cases h3:e3=0
       case neg =>
        rw [if_pos h3] at hr
        have q2:(e3 != 0)=true:=by rw [bne_iff_ne];exact h3
        have Hr:=Lib.hid hr
        clear hr h3
        go_wp2_with fail
        go_ret
        rw [Hr.out]
        exact ⟨rfl,H5.out,HK5.out⟩
       subst h3
       rw [if_neg (by simp)] at hr
       have hrn:=H5.out.rename ⟨#[99,117,114,115,111,114,43]⟩ ⟨#[99,117,114,115,111,114]⟩ (lit_le (by decide)) (lit_le (by decide))
       rw [Hn7.out,Hn6.out] at hrn
       have Hrn:=Lib.hid hrn
       have HR4:=Lib.hid hr
       clear hr hrn
       go_wp2_with fail
       refine Hrn.out.mono ?_
       rintro e w6 ⟨rfl,hl6,hk6⟩
       have H6:=Lib.hid hl6
       have HK6:=Lib.hid (HK5.out.trans hk6)
       clear hl6 hk6
       go_wp2_with fail
       go_ret
       rw [HR4.out]
       exact ⟨rfl,H6.out,HK6.out⟩
  · rw [if_pos (by simp [hm])] at hR
    have hen:=Cur.enc_none hm
    rw [hen] at HE
    have HR:=Lib.hid hR
    clear hR hoff hup hen hm
    go_enter Tryz.func124,Tryz.ntmps124
    go_wp2_with fail
    rw [← HW1.out]
    refine Hup.out.mono ?_
    rintro e w1' ⟨rfl,rfl⟩
    go_wp2_with fail
    refine (HE.out _).mono ?_
    rintro e w2 ⟨rfl,hb2⟩
    have H2:=Lib.hid (H1.out.keep hb2)
    have HK2:=Lib.hid (HK1.out.trans (Keeps.below hb2))
    clear hb2
    go_wp2_with fail
    go_ret
    rw [HR.out]
    exact ⟨rfl,H2.out,HK2.out⟩
set_option maxHeartbeats 2000000 in
theorem Live.load (h:Live w0 X w v d) :
  Calls Tryz.prog 73 #[v] w fun e w' => e=.returned (.tuple #[curV (loadD d).1.1 (loadD d).1.2,.int .i64 (loadD d).2])∧Below w.heap.size w w':=by
 obtain ⟨bd,rfl⟩:=h.ptr
 obtain ⟨R,hR⟩:∃ R,R=loadD d:=⟨_,rfl⟩
 rw [← hR]
 unfold curV loadD at *
 obtain ⟨w1,hw1⟩:∃ w1,w1=w.alloc (.cells #[.int .i64 0,.int .i64 0] 30 (0,0)):=⟨_,rfl⟩
 have hb1:Below w.heap.size w w1:=by rw [hw1];exact (Below.refl _ _).alloc (Nat.le_refl _) _
 have B0:=Lib.hid (show Blk w1 w.heap.size 30 #[.int .i64 0,.int .i64 0] by rw [hw1];exact Blk.alloc_new w _ _)
 have H1:=Lib.hid (h.keep hb1)
 have HW1:=Lib.hid hw1
 have Hb1:=Lib.hid hb1
 have hz1:w1.heap.size=w.heap.size+1:=by rw [hw1];simp
 have hrd:=H1.out.read ⟨#[99,117,114,115,111,114]⟩ (lit_le (by decide))
 rw [show (⟨#[99,117,114,115,111,114]⟩:ByteArray).data.toList=curN from rfl] at hrd
 have hlen:∃ s:ByteArray,s=⟨(d.read curN).1.toArray⟩∧s.size≤maxLen:=by
  refine ⟨_,rfl,?_⟩
  show (List.toArray _).size≤_
  rw [List.size_toArray]
  have hf:=h.ok.fits
  have hr2:=h.ok.room2
  unfold Dk.read
  split
  · simp
  · cases hg:get d.files curN with
    | none => simp
    | some f =>
     have hd:f.data.length≤total d.files:=data_le (get_mem hg)
     unfold maxLen;simp only;omega
 generalize d.read curN=rd at hR hrd hlen
 obtain ⟨t,e1⟩:=rd
 simp only at hR hrd hlen
 obtain ⟨s,hs,hsl⟩:=hlen
 rw [← hs] at hrd
 have hst:s.data.toList=t:=by rw [hs]
 rw [← hst] at hR
 have HR:=Lib.hid hR
 have Hrd:=Lib.hid hrd
 have Hde:=Lib.hid (fun W:World => decode_any s W hsl)
 unfold curV at Hde
 have Bad:=Lib.hid (show ∀ (v:World) (a b:Int),Below w1.heap.size w1 v→Blk ((v.setCell ⟨w.heap.size,0,none⟩ (.int .i64 a)).setCell ⟨w.heap.size,1,none⟩ (.int .i64 b)) w.heap.size 30 #[.int .i64 a,.int .i64 b]∧Below w.heap.size w ((v.setCell ⟨w.heap.size,0,none⟩ (.int .i64 a)).setCell ⟨w.heap.size,1,none⟩ (.int .i64 b)) from fun v a b hv =>
  ⟨cur_two (B0.out.below hv) _ _,((Hb1.out.trans (hv.mono (by omega))).setCell (p:=⟨w.heap.size,0,none⟩) (Nat.le_refl _) _).setCell (p:=⟨w.heap.size,1,none⟩) (Nat.le_refl _) _⟩)
 clear h hb1 hw1 hR hrd hs hst hsl
 by_cases h4:e1=4
 · subst h4
   have hr:=HR.out
   rw [if_pos rfl] at hr
   have Hr:=Lib.hid hr
   clear hr
   go_enter Tryz.func73,Tryz.ntmps73
   go_wp2_with fail
   rw [← HW1.out]
   refine Hrd.out.mono ?_
   rintro e w2 ⟨rfl,hb2⟩
   have HZ:=Lib.hid (Bad.out w2 0 0 hb2)
   have bx:=B0.out.below hb2
   have h0:=bx.free 0
   have h1:=bx.free 1
   have e0:=bx.cell 0
   have e1:=bx.cell 1
   simp at e0 e1
   clear bx hb2
   go_wp2_with fail
   generalize ((w2.setCell ⟨w.heap.size,0,none⟩ (.int .i64 0)).setCell ⟨w.heap.size,1,none⟩ (.int .i64 0))=wz at HZ ⊢
   have k0:=HZ.out.1.cell 0
   have k1:=HZ.out.1.cell 1
   simp at k0 k1
   refine bodyPost_ret (v:=.tuple #[.agg #[.int .i64 0,.int .i64 0],.int .i64 0]) (by simp [results,Tryz.results73,go_sem,k0,k1]) rfl ⟨by rw [Hr.out],HZ.out.2⟩
 by_cases h0:e1=0
 · subst h0
   have hr:=HR.out
   rw [if_neg (by decide),if_pos rfl] at hr
   have hdr:Cur.decR s.data.toList=match Cur.dec s.data.toList with | some c => (c,0) | none => ((0,0),30):=rfl
   generalize Cur.decR s.data.toList=D at hdr Hde
   obtain ⟨⟨a,b⟩,e2⟩:=D
   have HRR:=Lib.hid hr
   have HDR:=Lib.hid hdr
   clear hr hdr h4
   go_enter Tryz.func73,Tryz.ntmps73
   go_wp2_with fail
   rw [← HW1.out]
   refine Hrd.out.mono ?_
   rintro e w2 ⟨rfl,hb2⟩
   have Hb2:=Lib.hid hb2
   clear hb2
   go_wp2_with fail
   refine (Hde.out _).mono ?_
   rintro e w3 ⟨rfl,hb3⟩
   obtain ⟨w4,hw4⟩:∃ w4,w4=w3.alloc (.cells #[.int .i64 a,.int .i64 b] 30 (0,0)):=⟨_,rfl⟩
   have Hb3:=Lib.hid (Hb2.out.trans (hb3.mono Hb2.out.size))
   have Hb4:=Lib.hid (show Below w1.heap.size w1 w4 from by rw [hw4];exact Hb3.out.alloc Hb3.out.size _)
   have bx:=B0.out.below Hb4.out
   have h0:=bx.free 0
   have h1:=bx.free 1
   have e0:=bx.cell 0
   have e1:=bx.cell 1
   simp at e0 e1
   rw [hw4] at h0 h1 e0 e1
   have HW4:=Lib.hid hw4
   clear hb3 bx hw4
   by_cases hx:e2=0
   · have hd:=HDR.out
     subst hx
     have hr:=HRR.out
     cases hdc:Cur.dec s.data.toList with
     | none => rw [hdc] at hd;simp only [Prod.mk.injEq] at hd;exact absurd hd.2 (by decide)
     | some c =>
      rw [hdc] at hd hr
      simp only [Prod.mk.injEq] at hd
      obtain ⟨rfl,_⟩:=hd
      have Hr:=Lib.hid hr
      have HZ:=Lib.hid (Bad.out w4 a b Hb4.out)
      clear hr hdc
      go_wp2_with fail
      rw [← HW4.out]
      generalize ((w4.setCell ⟨w.heap.size,0,none⟩ (.int .i64 a)).setCell ⟨w.heap.size,1,none⟩ (.int .i64 b))=wz at HZ ⊢
      have k0:=HZ.out.1.cell 0
      have k1:=HZ.out.1.cell 1
      simp at k0 k1
      refine bodyPost_ret (v:=.tuple #[.agg #[.int .i64 a,.int .i64 b],.int .i64 0]) (by simp [results,Tryz.results73,go_sem,k0,k1]) rfl ⟨by rw [Hr.out],HZ.out.2⟩
   · have hd:=HDR.out
     have hr:=HRR.out
     cases hdc:Cur.dec s.data.toList with
     | some c => rw [hdc] at hd;simp only [Prod.mk.injEq] at hd;exact absurd hd.2 hx
     | none =>
      rw [hdc] at hr
      have q:(e2 == 0)=false:=by rw [beq_eq_false_iff_ne];exact hx
      have Hr:=Lib.hid hr
      have HZ:=Lib.hid (Bad.out w4 0 0 Hb4.out)
      clear hr hdc hd hx
      go_wp2_with fail
      rw [← HW4.out]
      generalize ((w4.setCell ⟨w.heap.size,0,none⟩ (.int .i64 0)).setCell ⟨w.heap.size,1,none⟩ (.int .i64 0))=wz at HZ ⊢
      have k0:=HZ.out.1.cell 0
      have k1:=HZ.out.1.cell 1
      simp at k0 k1
      refine bodyPost_ret (v:=.tuple #[.agg #[.int .i64 0,.int .i64 0],.int .i64 60]) (by simp [results,Tryz.results73,go_sem,k0,k1]) rfl ⟨by rw [Hr.out],HZ.out.2⟩
 · have hr:=HR.out
   rw [if_neg h4,if_neg h0] at hr
   have q4:(e1 == 4)=false:=by rw [beq_eq_false_iff_ne];exact h4
   have q0:(e1 == 0)=false:=by rw [beq_eq_false_iff_ne];exact h0
   have Hr:=Lib.hid hr
   clear hr h4 h0
   go_enter Tryz.func73,Tryz.ntmps73
   go_wp2_with fail
   rw [← HW1.out]
   refine Hrd.out.mono ?_
   rintro e w2 ⟨rfl,hb2⟩
   have HZ:=Lib.hid (Bad.out w2 0 0 hb2)
   have bx:=B0.out.below hb2
   have h0:=bx.free 0
   have h1:=bx.free 1
   have e0:=bx.cell 0
   have ee1:=bx.cell 1
   simp at e0 ee1
   clear bx hb2
   go_wp2_with fail
   generalize ((w2.setCell ⟨w.heap.size,0,none⟩ (.int .i64 0)).setCell ⟨w.heap.size,1,none⟩ (.int .i64 0))=wz at HZ ⊢
   have k0:=HZ.out.1.cell 0
   have k1:=HZ.out.1.cell 1
   simp at k0 k1
   refine bodyPost_ret (v:=.tuple #[.agg #[.int .i64 0,.int .i64 0],.int .i64 e1]) (by simp [results,Tryz.results73,go_sem,k0,k1]) rfl ⟨by rw [Hr.out],HZ.out.2⟩
end
end Go.Proofs.YtdacanghbepjpaaGreatDoor

/- Numbers as bytes, by the document, walked. Numbers and texts as bytes, by the document, in this chapter's words: walked. Spans, by the document: may one be, its bytes: walked. -/
import Derived.Test.YtdacanghbepjpaaGreatDoorG2
import Derived.Test.YtdacanghbepjpaaGreatDoorM1
import Derived.Test.YtdacanghbepjpaaGreatDoorG4
namespace Go.Proofs.YtdacanghbepjpaaGreatDoor
set_option maxRecDepth 100000
open Go.RowKit
theorem one_text (W:World) (k:Int) (c:UInt8) (hk:(c.toNat:Int)=k):(convert 78 9 (.slice (some ⟨W.heap.size,0,none⟩) 1 1)).run Tryz.prog (W.alloc (.cells #[.int .u8 k] 5 (0,0)))=.ok (.string ⟨#[c]⟩) (W.alloc (.cells #[.int .u8 k] 5 (0,0))):=by
 refine run_convert_bytes_back (W.alloc (.cells #[.int .u8 k] 5 (0,0))) _ _ _ _ _ [c] under_bytes under_byte under_string ?_
 intro j hj
 obtain rfl:j=0:=by simpa using hj
 have:(⟨W.heap.size,0,none⟩:Addr).add 0=⟨W.heap.size,0,none⟩:=by unfold Addr.add;split <;> simp_all
 rw [this,(Blk.alloc_new W _ _).cell]
 simp [hk]
set_option maxHeartbeats 2000000 in
theorem refPut_any (n:Int) (w:World) (hn:-9223372036854775808≤n∧n≤9223372036854775807) :
  Calls Tryz.prog 155 #[.int .i64 n] w fun e w' => e=.returned (.string ⟨(Var.putI n).toArray⟩)∧Below w.heap.size w w':=by
 unfold Var.putI
 obtain ⟨hn1,hn2⟩:=hn
 by_cases hneg:n<0
 · rw [if_pos hneg]
   go_enter Tryz.func155,Tryz.ntmps155
   go_wp2_with fail
   go_ret
   exact ⟨rfl,Below.refl _ _⟩
 · rw [if_neg hneg]
   obtain ⟨m,rfl⟩:∃ m:Nat,n=m:=⟨n.toNat,by omega⟩
   rw [Int.toNat_natCast]
   have h1:=fun W:World => one_text W ((m:Int) % 128) (UInt8.ofNat (m % 128)) (by rw [Var.ofNat_toNat (by omega)];omega)
   have hc1:=h1 w
   have q1:Int.tmod (m:Int) 128=(m:Int) % 128:=Int.tmod_eq_emod_of_nonneg (by omega)
   have q2:Int.tdiv (m:Int) 128=((m / 128:Nat):Int):=by rw [Int.tdiv_eq_ediv_of_nonneg (by omega)];rfl
   clear h1 hneg
   go_enter Tryz.func155,Tryz.ntmps155
   go_wp2_with fail
   clear hc1 q1 q2
   go_loopw [0,3] (fun v0 v3 wr => ∃ (n:Nat) (S:List UInt8),v0=.int .i64 n∧v3=.string ⟨S.toArray⟩∧((n=0∧S=Var.put m)∨(0<n∧Var.hi n++S=Var.put m))∧n≤m∧Below w.heap.size w wr) (fun v0 _ _ => (intOf v0).toNat)
   case atStart =>
    refine ⟨m / 128,[UInt8.ofNat (m % 128)],rfl,rfl,?_,by omega,(Below.refl _ _).alloc (Nat.le_refl _) _⟩
    unfold Var.put
    split
    · exact .inl ⟨by omega,by rw [Nat.mod_eq_of_lt (by assumption)]⟩
    · exact .inr ⟨by omega,rfl⟩
   case round =>
    obtain ⟨n,S,rfl,rfl,hS,hnm,hbe⟩:=hrel
    have Hbe:=Lib.hid hbe
    have hz:=hbe.size
    clear hbe
    rcases hS with ⟨rfl,rfl⟩ | ⟨hn0,hS⟩
    · go_wp2_with fail
      go_ret
      exact ⟨rfl,Hbe.out⟩
    · have h1:=one_text wr ((n:Int) % 128+128) (UInt8.ofNat (n % 128+128)) (by rw [Var.ofNat_toNat (by omega)];omega)
      have q1:Int.tmod (n:Int) 128=(n:Int) % 128:=Int.tmod_eq_emod_of_nonneg (by omega)
      have hsl:S.length≤9:=by
       have:=congrArg List.length hS
       have h9:=Var.put_len_le (n:=m) (by rw [Var.pow9];omega)
       rw [List.length_append] at this
       omega
      have HS:=Lib.hid hS
      obtain ⟨T,hT⟩:∃ T:ByteArray,T=⟨S.toArray⟩:=⟨_,rfl⟩
      have hTs:T.size≤9:=by rw [hT];exact Nat.le_trans (Nat.le_of_eq List.size_toArray) hsl
      rw [← hT]
      have HT:=Lib.hid hT
      clear hS hT hsl
      go_wp2_with fail
      refine ⟨⟨n / 128,UInt8.ofNat (n % 128+128)::S,rfl,?_,?_,by omega,Hbe.out.alloc hz _⟩,by simp [intOf];omega⟩
      · rw [HT.out]
        congr 1
        have:UInt8.ofNat (n % 128)+128=UInt8.ofNat (n % 128+128):=by simp
        rw [this]
        exact cat_list [UInt8.ofNat (n % 128+128)] S
      · by_cases h128:n<128
        · refine .inl ⟨by omega,?_⟩
          rw [← HS.out,Var.hi_small h128,Nat.mod_eq_of_lt h128];rfl
        · refine .inr ⟨by omega,?_⟩
          rw [← HS.out,Var.hi_big (show 128≤n by omega)]
          simp
theorem fold_take_succ (l:List UInt8) (j:Nat) (hj:j<l.length):Var.fold 0 (l.take (j+1))=Var.fold 0 (l.take j)*128+(l[j]).toNat % 128:=by
 rw [List.take_succ_eq_append_getElem hj,Var.fold_snoc]
set_option maxHeartbeats 4000000 in
theorem refGet_any (s:ByteArray) (p:Nat) (w:World) (hs:s.size≤maxLen) (hp:p≤9223372036854775807) :
  Calls Tryz.prog 152 #[.string s,.int .i64 p] w fun e w' => e=gotE (Var.get s.data.toList p)∧Below w.heap.size w w':=by
 have hsm:s.size≤9223372036854775807:=by unfold maxLen at hs;omega
 have hl:s.data.toList.length=s.size:=by simp
 by_cases hin:p<s.size
 · obtain ⟨G,hG⟩:∃ G,G=Var.get s.data.toList p:=⟨_,rfl⟩
   rw [← hG]
   have HG:=Lib.hid hG
   have Hl:=Lib.hid hl
   have hpi:(p:Int)<s.size:=by omega
   have q0:decide ((s.size:Int)≤p)=false:=decide_eq_false (by omega)
   have q0':decide (s.size≤p)=false:=decide_eq_false (by omega)
   clear hG hl hs
   go_enter Tryz.func152,Tryz.ntmps152
   go_wp2_with fail
   go_loopw [7] (fun v7 wr => ∃ e:Nat,v7=.int .i64 e∧p≤e∧e≤s.size∧wr=w∧∀ (j:Nat) (hj:j<s.data.toList.length),p≤j→j<e→128≤(s.data.toList[j]).toNat) (fun v7 _ => s.size-(intOf v7).toNat)
   case atStart => exact ⟨p,rfl,Nat.le_refl _,by omega,rfl,fun _ _ h1 h2 => absurd h1 (by omega)⟩
   case round =>
    obtain ⟨e,rfl,hpe,hes,rfl,hall⟩:=hrel
    have Hall:=Lib.hid hall
    clear hall
    by_cases hlt:e<s.size
    · have hei:(e:Int)<s.size:=by omega
      obtain ⟨c,hc⟩:∃ c,s[e]=c:=⟨_,rfl⟩
      have Hc:=Lib.hid (show s.data.toList[e]'(by rw [Hl.out];exact hlt)=c from hc)
      have hc256:=c.toNat_lt
      by_cases hc1:128≤c.toNat
      · have q:decide ((128:Int)≤c.toNat)=true:=decide_eq_true (by omega)
        have q':decide (128≤c.toNat)=true:=decide_eq_true hc1
        go_wp2_with fail
        go_roundw
        case rel =>
         refine ⟨e+1,by go_num,by omega,by omega,by trivial,fun j hj h1 h2 => ?_⟩
         by_cases hje:j=e
         · subst hje;rw [Hc.out];exact hc1
         · exact Hall.out j hj h1 (by omega)
        case measure => simp [intOf];omega
      · have q:decide ((128:Int)≤c.toNat)=false:=decide_eq_false (by omega)
        have q':decide (128≤c.toNat)=false:=decide_eq_false hc1
        have q2:((e:Int) == s.size)=false:=by rw [beq_eq_false_iff_ne];omega
        have q2':(e == s.size)=false:=by rw [beq_eq_false_iff_ne];omega
        by_cases h8:8<e-p
        · have HGn:=Lib.hid (show G=none by rw [HG.out];exact Var.get_far Hall.out h8)
          have q3:decide ((8:Int)<(e:Int)-p)=true:=decide_eq_true (by omega)
          go_wp2_with fail
          go_ret3
          rw [HGn.out]
          exact ⟨rfl,Below.refl _ _⟩
        · have q3:decide ((8:Int)<(e:Int)-p)=false:=decide_eq_false (by omega)
          have HGr:=Lib.hid (HG.out.trans (Var.get_run hpe (by rw [Hl.out];exact hlt) Hall.out (by rw [Hc.out];omega) (by omega)))
          go_wp2_with fail
          clear q q' q2 q2' q3
          go_loopw [8,9] (fun v8 v9 wq => ∃ i:Nat,v9=.int .i64 i∧p≤i∧i≤e+1∧wq=wr∧v8=.int .i64 (Var.fold 0 ((s.data.toList.drop p).take (i-p)):Nat)) (fun _ v9 _ => e+1-(intOf v9).toNat)
          case atStart => exact ⟨p,rfl,Nat.le_refl _,by omega,rfl,by simp [Var.fold]⟩
          case round =>
           obtain ⟨i,rfl,hpi2,hie,rfl,rfl⟩:=hrel
           by_cases hlt2:i≤e
           · have hisz0:i<s.size:=by omega
             have hdl:(s.data.toList.drop p).length=s.size-p:=by rw [List.length_drop,Hl.out]
             have hf:=fold_take_succ (s.data.toList.drop p) (i-p) (by omega)
             have hfl:=Var.fold_lt ((s.data.toList.drop p).take (i-p))
             have hpw:(128:Nat) ^ ((s.data.toList.drop p).take (i-p)).length≤128 ^ 8:=Nat.pow_le_pow_right (by decide) (by rw [List.length_take];omega)
             have h128:(128:Nat) ^ 8=72057594037927936:=by decide
             obtain ⟨ci,hci⟩:∃ ci,s[i]'hisz0=ci:=⟨_,rfl⟩
             have hgi:(s.data.toList.drop p)[i-p]'(by omega)=ci:=by
              rw [List.getElem_drop,← hci]
              simp only [show p+(i-p)=i by omega]
              rfl
             rw [hgi,show i-p+1=i+1-p by omega] at hf
             obtain ⟨A,hA⟩:∃ A,A=Var.fold 0 ((s.data.toList.drop p).take (i-p)):=⟨_,rfl⟩
             rw [← hA] at hf hfl ⊢
             have hA2:A<72057594037927936:=by omega
             have Hf:=Lib.hid hf
             have hc256i:=ci.toNat_lt
             have hii:(i:Int)≤e:=by omega
             have hisz:(i:Int)<s.size:=by omega
             have w1:IntKind.i64.wrap ((A:Int)*128)=(A:Int)*128:=IntWalk.i64_in _ ⟨by omega,by omega⟩
             clear hf hfl hpw h128 hgi hA hdl
             go_wp2_with fail
             go_roundw
             case rel => exact ⟨i+1,by go_num,by omega,by omega,by trivial,by rw [Hf.out];push_cast;rfl⟩
             case measure => simp [intOf];omega
           · obtain rfl:i=e+1:=by omega
             obtain ⟨A,hA⟩:∃ A,A=Var.fold 0 ((s.data.toList.drop p).take (e+1-p)):=⟨_,rfl⟩
             have hfl:=Var.fold_lt ((s.data.toList.drop p).take (e+1-p))
             have hpw:(128:Nat) ^ ((s.data.toList.drop p).take (e+1-p)).length≤128 ^ 9:=Nat.pow_le_pow_right (by decide) (by rw [List.length_take];omega)
             rw [Var.pow9] at hpw
             rw [← hA] at hfl ⊢
             have hr:=HGr.out
             rw [show e-p+1=e+1-p by omega,← hA] at hr
             have Hr:=Lib.hid hr
             have hp1:=fun W:World => refPut_any (A:Int) W ⟨by omega,by omega⟩
             have e1:Var.putI (A:Int)=Var.put A:=by unfold Var.putI;rw [if_neg (by omega),Int.toNat_natCast]
             rw [e1] at hp1
             have HP:=Lib.hid (fun x:Ext wr => hp1 x.wd)
             have hsl:(⟨((s.data.toList.drop p).take (e+1-p)).toArray⟩:ByteArray)=s.extract p (e+1):=by
              apply bytes_ext
              rw [extract_list]
             have Hsl:=Lib.hid hsl
             have w1:IntKind.i64.wrap ((e:Int)+1)=(e:Int)+1:=IntWalk.i64_in _ ⟨by omega,by omega⟩
             have b1:(p:Int)≤(e:Int)+1:=by omega
             have b2:(e:Int)+1≤s.size:=by omega
             have b3:((e:Int)+1).toNat=e+1:=by omega
             clear hp1 e1 hsl hfl hpw hA
             by_cases heq:Var.put A=(s.data.toList.drop p).take (e+1-p)
             · rw [if_pos heq] at hr
               have hb:(Var.put A == (s.extract p (e+1)).toList)=true:=by rw [← Hsl.out,heq];simp
               have Hr2:=Lib.hid hr
               clear hr heq
               go_wp2_with fail
               refine wp_region_ext (by kernel_rfl) (by kernel_rfl) fun K hK => ?_
               repeat (go_big_quiet_step ((go_at_call 155;exact Calls.ext_of (HP.out _))))
               refine wpQuiet_nil (hK _ fun x => ?_)
               clear hK K
               have Hx:=Lib.hid x.le
               go_wp2_with fail
               go_ret3
               rw [Hr2.out]
               refine ⟨?_,Hx.out⟩
               simp [gotE]
             · rw [if_neg heq] at hr
               have hb:(Var.put A == (s.extract p (e+1)).toList)=false:=by
                rw [beq_eq_false_iff_ne]
                intro e0
                refine heq (e0.trans ?_)
                rw [← Hsl.out]
                simp
               have Hr2:=Lib.hid hr
               clear hr heq
               go_wp2_with fail
               refine wp_region_ext (by kernel_rfl) (by kernel_rfl) fun K hK => ?_
               repeat (go_big_quiet_step ((go_at_call 155;exact Calls.ext_of (HP.out _))))
               refine wpQuiet_nil (hK _ fun x => ?_)
               clear hK K
               have Hx:=Lib.hid x.le
               go_wp2_with fail
               go_ret3
               rw [Hr2.out]
               exact ⟨rfl,Hx.out⟩
    · obtain rfl:e=s.size:=by omega
      have HGn:=Lib.hid (show G=none by rw [HG.out];exact Var.get_all fun j hj h1 => Hall.out j hj h1 (by rw [← Hl.out];exact hj))
      go_wp2_with fail
      go_ret3
      rw [HGn.out]
      exact ⟨rfl,Below.refl _ _⟩
 · rw [get_none (by omega)]
   unfold gotE
   have q:decide ((p:Int)<s.size)=false:=decide_eq_false (by omega)
   have q1:(s.size:Int)≤p:=by omega
   clear hs hl
   go_enter Tryz.func152,Tryz.ntmps152
   go_wp2_with fail
   go_ret3
   exact ⟨rfl,Below.refl _ _⟩
end Go.Proofs.YtdacanghbepjpaaGreatDoor
namespace Go.Proofs.YtdacanghbepjpaaGreatDoor
set_option linter.unusedSimpArgs false
set_option linter.unusedVariables false
set_option maxRecDepth 100000
open Go.RowKit
theorem refPutP (n:Int) (w:World) (h0:0≤n) (h:n<9223372036854775808) :
  Calls Tryz.prog 155 #[.int .i64 n] w fun e w' => e=.returned (.string (pnB n))∧Below w.heap.size w w':=by
 have e:Ed.pn n=Var.putI n:=by unfold Ed.pn;rw [Int.max_eq_left h0]
 unfold pnB
 rw [e]
 exact refPut_any n w ⟨by omega,by omega⟩
theorem refPutText (t:ByteArray) (w:World) (ht:t.size≤1000000) :
  Calls Tryz.prog 157 #[.string t] w fun e w' => e=.returned (.string (encTB t))∧Below w.heap.size w w':=by
 have hp:=refPutP t.size w (by omega) (by omega)
 have hs:=pnB_size (n:=t.size) (by omega)
 have he:pnB t.size++t=encTB t:=by
  unfold pnB encTB Ed.encT
  rw [cat_r,list_len']
 obtain ⟨P,hP⟩:∃ P,P=pnB t.size:=⟨_,rfl⟩
 rw [← hP] at hp hs he
 have HP:=Lib.hid hp
 have HE:=Lib.hid he
 clear hp hP he
 go_enter Tryz.func157,Tryz.ntmps157
 go_wp2_with fail
 refine HP.out.mono ?_
 rintro e w1 ⟨rfl,hb⟩
 go_wp2_with fail
 go_ret
 rw [HE.out]
 exact ⟨rfl,hb⟩
end Go.Proofs.YtdacanghbepjpaaGreatDoor
namespace Go.Proofs.YtdacanghbepjpaaGreatDoor
set_option linter.unusedSimpArgs false
set_option linter.unusedVariables false
set_option maxRecDepth 100000
open Go.RowKit
theorem refBetween_any (n lo hi:Int) (w:World):Calls Tryz.prog 207 #[.int .i64 n,.int .i64 lo,.int .i64 hi] w fun e w' => e=.returned (.bool (decide (lo≤n∧n≤hi)))∧w=w':=by
 by_cases h1:lo≤n
 · by_cases h2:n≤hi
   · rw [decide_eq_true (And.intro h1 h2)]
     go_enter Tryz.func207,Tryz.ntmps207
     go_wp2_with fail
     go_ret
     exact ⟨rfl,rfl⟩
   · rw [decide_eq_false (fun h => h2 h.2)]
     go_enter Tryz.func207,Tryz.ntmps207
     go_wp2_with fail
     go_ret
     exact ⟨rfl,rfl⟩
 · rw [decide_eq_false (fun h => h1 h.1)]
   go_enter Tryz.func207,Tryz.ntmps207
   go_wp2_with fail
   go_ret
   exact ⟨rfl,rfl⟩
set_option maxHeartbeats 2000000 in
theorem refName_any (s:ByteArray) (hs:s.size≤maxLen) (w:World):Calls Tryz.prog 208 #[.string s] w fun e w' => e=.returned (.bool (decide (Sp.NameOk s)))∧w=w':=by
 obtain ⟨r,hr⟩:∃ r,r=decide (Sp.NameOk s):=⟨_,rfl⟩
 rw [← hr]
 have HR:=Lib.hid hr
 have hm:s.size≤9223372036854775807:=by unfold maxLen at hs;omega
 clear hr hs
 by_cases h1:s.size<1
 · have HV:=Lib.hid (show r=false by rw [HR.out,decide_eq_false];intro h;have:=h.1;omega)
   have t1:decide ((s.size:Int)<1)=true:=decide_eq_true (by omega)
   have t1':decide (s.size<1)=true:=decide_eq_true h1
   go_enter Tryz.func208,Tryz.ntmps208
   go_wp2_with fail
   go_ret
   rw [HV.out]
   exact ⟨rfl,rfl⟩
 have t1:decide ((s.size:Int)<1)=false:=decide_eq_false (by omega)
 have t1':decide (s.size<1)=false:=decide_eq_false h1
 by_cases h2:12<s.size
 · have HV:=Lib.hid (show r=false by rw [HR.out,decide_eq_false];intro h;have:=h.2.1;omega)
   have t2:decide ((12:Int)<s.size)=true:=decide_eq_true (by omega)
   have t2':decide (12<s.size)=true:=decide_eq_true h2
   clear h1
   go_enter Tryz.func208,Tryz.ntmps208
   go_wp2_with fail
   go_ret
   rw [HV.out]
   exact ⟨rfl,rfl⟩
 have t2:decide ((12:Int)<s.size)=false:=decide_eq_false (by omega)
 have t2':decide (12<s.size)=false:=decide_eq_false h2
 have HSZ:=Lib.hid (show 1≤s.size∧s.size≤12 by omega)
 clear h1 h2
 go_enter Tryz.func208,Tryz.ntmps208
 go_wp2_with fail
 clear t1 t1' t2 t2'
 go_loopw [3] (fun v1 wr => ∃ k:Nat,v1=.int .i64 k∧k≤s.size∧wr=w∧∀ (j:Nat) (hj:j<s.size),j<k→33≤(s[j]).toNat∧(s[j]).toNat≤126) (fun v1 _ => s.size-(intOf v1).toNat)
 case atStart => exact ⟨0,rfl,Nat.zero_le _,rfl,fun j hj h => absurd h (by omega)⟩
 case round =>
  obtain ⟨k,rfl,hk,rfl,hall⟩:=hrel
  have HALL:=Lib.hid hall
  clear hall
  by_cases hlt:k<s.size
  case neg =>
   have hge:¬ (k:Int)<s.size:=by omega
   have HV:=Lib.hid (show r=true by
    rw [HR.out]
    refine decide_eq_true ⟨HSZ.out.1,HSZ.out.2,fun c hc => ?_⟩
    obtain ⟨j,hj,rfl⟩:=List.mem_iff_getElem.1 hc
    have hj2:j<s.size:=by simpa using hj
    exact HALL.out j hj2 (by omega))
   go_wp2_with fail
   go_ret
   rw [HV.out]
   exact ⟨rfl,rfl⟩
  case pos =>
   have hlt2:(k:Int)<s.size:=by omega
   obtain ⟨c,hc⟩:∃ c,s[k]=c:=⟨_,rfl⟩
   have HC:=Lib.hid hc
   have hc256:=c.toNat_lt
   have HNO:=Lib.hid (show (c.toNat<33∨126<c.toNat)→r=false by
    intro h
    rw [HR.out,decide_eq_false]
    intro hn
    have:=hn.2.2 c (by
     refine List.mem_iff_getElem.2 ⟨k,by simpa using hlt,?_⟩
     rw [← HC.out];rfl)
    omega)
   by_cases c1:c.toNat<33
   · have q1:decide ((c.toNat:Int)<33)=true:=decide_eq_true (by omega)
     have q1':decide (c.toNat<33)=true:=decide_eq_true c1
     have HV:=Lib.hid (HNO.out (.inl c1))
     clear c1
     go_wp2_with fail
     go_ret
     rw [HV.out]
     exact ⟨rfl,rfl⟩
   · have q1:decide ((c.toNat:Int)<33)=false:=decide_eq_false (by omega)
     have q1':decide (c.toNat<33)=false:=decide_eq_false c1
     by_cases c2:126<c.toNat
     · have q2:decide ((126:Int)<c.toNat)=true:=decide_eq_true (by omega)
       have q2':decide (126<c.toNat)=true:=decide_eq_true c2
       have HV:=Lib.hid (HNO.out (.inr c2))
       clear c1 c2
       go_wp2_with fail
       go_ret
       rw [HV.out]
       exact ⟨rfl,rfl⟩
     · have q2:decide ((126:Int)<c.toNat)=false:=decide_eq_false (by omega)
       have q2':decide (126<c.toNat)=false:=decide_eq_false c2
       have HB:=Lib.hid (show 33≤c.toNat∧c.toNat≤126 by omega)
       clear c1 c2
       go_wp2_with fail
       go_roundw
       case rel =>
        refine ⟨k+1,by go_num,by omega,by trivial,fun j hj h => ?_⟩
        by_cases hjk:j=k
        · subst hjk
          rw [HC.out]
          exact HB.out
        · exact HALL.out j hj (by omega)
       case measure => simp [intOf];omega
set_option maxHeartbeats 4000000 in
theorem refMay_any (x:Sp.Span) (h1:x.service.size≤maxLen) (h2:x.host.size≤maxLen) (h3:x.note.size≤maxLen) (w:World) :
  Calls Tryz.prog 183 #[spV x] w fun e w' => e=.returned (.bool (decide (Sp.May x)))∧Below w.heap.size w w':=by
 obtain ⟨q,hq⟩:∃ q,q=w.heap.size:=⟨_,rfl⟩
 obtain ⟨w1,hw1⟩:∃ w1,w1=w.alloc (.cells #[.int .i64 x.trace,.int .i64 x.id,.int .i64 x.parent,.string x.service,.string x.host,.int .i64 x.start,.int .i64 x.dur,.string x.note] 47 (0,0)):=⟨_,rfl⟩
 have hb1:Below w.heap.size w w1:=by rw [hw1];exact (Below.refl _ _).alloc (Nat.le_refl _) _
 have hk1:Blk w1 q 47 #[.int .i64 x.trace,.int .i64 x.id,.int .i64 x.parent,.string x.service,.string x.host,.int .i64 x.start,.int .i64 x.dur,.string x.note]:=by rw [hw1,hq];exact Blk.alloc_new w _ _
 obtain ⟨b1,g1⟩:∃ b,b=decide (1≤x.trace∧x.trace≤2147483647):=⟨_,rfl⟩
 obtain ⟨b2,g2⟩:∃ b,b=decide (1≤x.id∧x.id≤2147483647):=⟨_,rfl⟩
 obtain ⟨b3,g3⟩:∃ b,b=decide (0≤x.parent∧x.parent≤2147483647):=⟨_,rfl⟩
 obtain ⟨b4,g4⟩:∃ b,b=decide (Sp.NameOk x.service):=⟨_,rfl⟩
 obtain ⟨b5,g5⟩:∃ b,b=decide (Sp.NameOk x.host):=⟨_,rfl⟩
 obtain ⟨b6,g6⟩:∃ b,b=decide (0≤x.start∧x.start≤1073741824):=⟨_,rfl⟩
 obtain ⟨b7,g7⟩:∃ b,b=decide (0≤x.dur∧x.dur≤1073741824):=⟨_,rfl⟩
 obtain ⟨b8,g8⟩:∃ b,b=decide (x.note.size≤24):=⟨_,rfl⟩
 have k1:=refBetween_any x.trace 1 2147483647 w1
 have k2:=refBetween_any x.id 1 2147483647 w1
 have k3:=refBetween_any x.parent 0 2147483647 w1
 have k4:=refName_any x.service h1 w1
 have k5:=refName_any x.host h2 w1
 have k6:=refBetween_any x.start 0 1073741824 w1
 have k7:=refBetween_any x.dur 0 1073741824 w1
 obtain ⟨r,hr⟩:∃ r,r=decide (Sp.May x):=⟨_,rfl⟩
 have HV:=Lib.hid (show r=(b1 && (b2 && (b3 && (b4 && (b5 && (b6 && (b7 && b8))))))) by
  rw [hr,g1,g2,g3,g4,g5,g6,g7,g8,Bool.eq_iff_iff]
  simp only [Bool.and_eq_true,decide_eq_true_eq,Sp.may_iff]
  constructor
  · rintro ⟨a,b,c,d,e,f,g,h⟩
    exact ⟨a,b,c,f,g,d,e,h⟩
  · rintro ⟨a,b,c,f,g,d,e,h⟩
    exact ⟨a,b,c,d,e,f,g,h⟩)
 rw [← hr]
 rw [← g1] at k1
 rw [← g2] at k2
 rw [← g3] at k3
 rw [← g4] at k4
 rw [← g5] at k5
 rw [← g6] at k6
 rw [← g7] at k7
 have K1:=Lib.hid k1
 have K2:=Lib.hid k2
 have K3:=Lib.hid k3
 have K4:=Lib.hid k4
 have K5:=Lib.hid k5
 have K6:=Lib.hid k6
 have K7:=Lib.hid k7
 have HB1:=Lib.hid hb1
 have HW1:=Lib.hid hw1
 have c0:=hk1.cell 0
 have c1:=hk1.cell 1
 have c2:=hk1.cell 2
 have c3:=hk1.cell 3
 have c4:=hk1.cell 4
 have c5:=hk1.cell 5
 have c6:=hk1.cell 6
 have c7:=hk1.cell 7
 simp only [List.getElem?_toArray,List.getElem?_cons_zero,List.getElem?_cons_succ] at c0 c1 c2 c3 c4 c5 c6 c7
 have hn3:x.note.size≤9223372036854775807:=by unfold maxLen at h3;omega
 have q8:decide ((x.note.size:Int)≤24)=b8:=by rw [g8];exact decide_eq_decide.2 (by omega)
 have q8':decide (x.note.size≤24)=b8:=g8.symm
 unfold spV
 clear hr g1 g2 g3 g4 g5 g6 g7 g8 k1 k2 k3 k4 k5 k6 k7 hb1 hw1 hk1 h1 h2 h3
 obtain ⟨tr,id,pa,se,ho,sa,du,no⟩:=x
 simp only at K1 K2 K3 K4 K5 K6 K7 HW1 c0 c1 c2 c3 c4 c5 c6 c7 hn3 q8 q8' ⊢
 go_enter Tryz.func183,Tryz.ntmps183
 go_wp2_with fail
 rw [← HW1.out,← hq]
 clear hq HW1
 refine K1.out.mono ?_
 rintro e w2 ⟨rfl,rfl⟩
 cases b1
 case false =>
  go_wp2_with fail
  go_ret
  rw [HV.out]
  exact ⟨by simp,HB1.out⟩
 case true =>
 go_wp2_with fail
 refine K2.out.mono ?_
 rintro e w2 ⟨rfl,rfl⟩
 cases b2
 case false =>
  go_wp2_with fail
  go_ret
  rw [HV.out]
  exact ⟨by simp,HB1.out⟩
 case true =>
 go_wp2_with fail
 refine K3.out.mono ?_
 rintro e w2 ⟨rfl,rfl⟩
 cases b3
 case false =>
  go_wp2_with fail
  go_ret
  rw [HV.out]
  exact ⟨by simp,HB1.out⟩
 case true =>
 go_wp2_with fail
 refine K4.out.mono ?_
 rintro e w2 ⟨rfl,rfl⟩
 cases b4
 case false =>
  go_wp2_with fail
  go_ret
  rw [HV.out]
  exact ⟨by simp,HB1.out⟩
 case true =>
 go_wp2_with fail
 refine K5.out.mono ?_
 rintro e w2 ⟨rfl,rfl⟩
 cases b5
 case false =>
  go_wp2_with fail
  go_ret
  rw [HV.out]
  exact ⟨by simp,HB1.out⟩
 case true =>
 go_wp2_with fail
 refine K6.out.mono ?_
 rintro e w2 ⟨rfl,rfl⟩
 cases b6
 case false =>
  go_wp2_with fail
  go_ret
  rw [HV.out]
  exact ⟨by simp,HB1.out⟩
 case true =>
 go_wp2_with fail
 refine K7.out.mono ?_
 rintro e w2 ⟨rfl,rfl⟩
 cases b7
 case false =>
  go_wp2_with fail
  go_ret
  rw [HV.out]
  exact ⟨by simp,HB1.out⟩
 case true =>
 go_wp2_with fail
 go_ret
 rw [HV.out]
 exact ⟨by simp,HB1.out⟩
theorem encS_cat (x:Sp.Span):pnB x.trace++pnB x.id++pnB x.parent++pnB x.start++pnB x.dur++encTB x.service++encTB x.host++encTB x.note=⟨(Sp.enc x).toArray⟩:=by
 unfold pnB encTB Sp.enc
 simp only [cat_r,List.append_assoc]
set_option maxHeartbeats 4000000 in
theorem refEncodeS_any (x:Sp.Span) (h1:x.service.size≤maxLen) (h2:x.host.size≤maxLen) (h3:x.note.size≤maxLen) (w:World) :
  Calls Tryz.prog 156 #[spV x] w fun e w' => e=.returned (.tuple #[.string ⟨(spQ x).1.toArray⟩,.int .i64 (spQ x).2])∧Below w.heap.size w w':=by
 obtain ⟨q,hq⟩:∃ q,q=w.heap.size:=⟨_,rfl⟩
 obtain ⟨w1,hw1⟩:∃ w1,w1=w.alloc (.cells #[.int .i64 x.trace,.int .i64 x.id,.int .i64 x.parent,.string x.service,.string x.host,.int .i64 x.start,.int .i64 x.dur,.string x.note] 47 (0,0)):=⟨_,rfl⟩
 have hb1:Below w.heap.size w w1:=by rw [hw1];exact (Below.refl _ _).alloc (Nat.le_refl _) _
 have hk1:Blk w1 q 47 #[.int .i64 x.trace,.int .i64 x.id,.int .i64 x.parent,.string x.service,.string x.host,.int .i64 x.start,.int .i64 x.dur,.string x.note]:=by rw [hw1,hq];exact Blk.alloc_new w _ _
 have HM:=Lib.hid (refMay_any x h1 h2 h3 w1)
 have HB1:=Lib.hid hb1
 have HW1:=Lib.hid hw1
 have c0:=hk1.cell 0
 have c1:=hk1.cell 1
 have c2:=hk1.cell 2
 have c3:=hk1.cell 3
 have c4:=hk1.cell 4
 have c5:=hk1.cell 5
 have c6:=hk1.cell 6
 have c7:=hk1.cell 7
 simp only [List.getElem?_toArray,List.getElem?_cons_zero,List.getElem?_cons_succ] at c0 c1 c2 c3 c4 c5 c6 c7
 by_cases hm:Sp.May x
 case neg =>
  have e1:spQ x=([],2):=by unfold spQ;exact if_neg hm
  rw [decide_eq_false hm] at HM
  rw [e1]
  unfold spV at HM ⊢
  clear hm hb1 hw1 hk1 h1 h2 h3 e1
  obtain ⟨tr,id,pa,se,ho,sa,du,no⟩:=x
  simp only at HM HW1 c0 c1 c2 c3 c4 c5 c6 c7 ⊢
  go_enter Tryz.func156,Tryz.ntmps156
  go_wp2_with fail
  rw [← HW1.out]
  refine HM.out.mono ?_
  rintro e w2 ⟨rfl,hb⟩
  have HB2:=Lib.hid (HB1.out.trans (hb.mono HB1.out.size))
  clear hb c0 c1 c2 c3 c4 c5 c6 c7
  go_wp2_with fail
  refine bodyPost_ret (v:=.tuple #[.string ⟨#[]⟩,.int .i64 2]) (by simp [results,Tryz.results156,go_sem]) rfl ?_
  exact ⟨rfl,HB2.out⟩
 case pos =>
  have e1:spQ x=(Sp.enc x,0):=by unfold spQ;exact if_pos hm
  rw [decide_eq_true hm] at HM
  rw [e1]
  simp only
  rw [← encS_cat x]
  have z1:=pnB_size (n:=x.trace) (by have:=hm.trace;omega)
  have z2:=pnB_size (n:=x.id) (by have:=hm.id;omega)
  have z3:=pnB_size (n:=x.parent) (by have:=hm.parent;omega)
  have z4:=pnB_size (n:=x.start) (by have:=hm.start;omega)
  have z5:=pnB_size (n:=x.dur) (by have:=hm.dur;omega)
  have z6:=encT_len x.service (by have:=hm.service.2.1;omega)
  have z7:=encT_len x.host (by have:=hm.host.2.1;omega)
  have z8:=encT_len x.note (by have:=hm.note;omega)
  have y6:=hm.service.2.1
  have y7:=hm.host.2.1
  have y8:=hm.note
  have P1:=Lib.hid (fun W:World => refPutP x.trace W (by have:=hm.trace;omega) (by have:=hm.trace;omega))
  have P2:=Lib.hid (fun W:World => refPutP x.id W (by have:=hm.id;omega) (by have:=hm.id;omega))
  have P3:=Lib.hid (fun W:World => refPutP x.parent W (by have:=hm.parent;omega) (by have:=hm.parent;omega))
  have P4:=Lib.hid (fun W:World => refPutP x.start W (by have:=hm.start;omega) (by have:=hm.start;omega))
  have P5:=Lib.hid (fun W:World => refPutP x.dur W (by have:=hm.dur;omega) (by have:=hm.dur;omega))
  have P6:=Lib.hid (fun W:World => refPutText x.service W (by omega))
  have P7:=Lib.hid (fun W:World => refPutText x.host W (by omega))
  have P8:=Lib.hid (fun W:World => refPutText x.note W (by omega))
  have hl6:(encTB x.service).size≤33:=by omega
  have hl7:(encTB x.host).size≤33:=by omega
  have hl8:(encTB x.note).size≤33:=by omega
  obtain ⟨s1,e1⟩:∃ s,s=pnB x.trace:=⟨_,rfl⟩
  obtain ⟨s2,e2⟩:∃ s,s=pnB x.id:=⟨_,rfl⟩
  obtain ⟨s3,e3⟩:∃ s,s=pnB x.parent:=⟨_,rfl⟩
  obtain ⟨s4,e4⟩:∃ s,s=pnB x.start:=⟨_,rfl⟩
  obtain ⟨s5,e5⟩:∃ s,s=pnB x.dur:=⟨_,rfl⟩
  obtain ⟨s6,e6⟩:∃ s,s=encTB x.service:=⟨_,rfl⟩
  obtain ⟨s7,e7⟩:∃ s,s=encTB x.host:=⟨_,rfl⟩
  obtain ⟨s8,e8⟩:∃ s,s=encTB x.note:=⟨_,rfl⟩
  rw [← e1,← e2,← e3,← e4,← e5,← e6,← e7,← e8]
  rw [← e1] at P1 z1
  rw [← e2] at P2 z2
  rw [← e3] at P3 z3
  rw [← e4] at P4 z4
  rw [← e5] at P5 z5
  rw [← e6] at P6 hl6
  rw [← e7] at P7 hl7
  rw [← e8] at P8 hl8
  have HCS:=Lib.hid (fun (W:World) (hW:Below w1.heap.size w1 W) => hk1.below hW)
  have sz1:¬ 9223372036854775807<s1.size+s2.size:=by omega
  have sz2:¬ 9223372036854775807<s1.size+s2.size+s3.size:=by omega
  have sz3:¬ 9223372036854775807<s1.size+s2.size+s3.size+s4.size:=by omega
  have sz4:¬ 9223372036854775807<s1.size+s2.size+s3.size+s4.size+s5.size:=by omega
  unfold spV at HM ⊢
  clear e1 e2 e3 e4 e5 e6 e7 e8 z6 z7 z8 y6 y7 y8 hm hb1 hw1 hk1 h1 h2 h3
  obtain ⟨tr,id,pa,se,ho,sa,du,no⟩:=x
  simp only at HM HW1 P1 P2 P3 P4 P5 P6 P7 P8 c0 c1 c2 c3 c4 c5 c6 c7 HCS ⊢
  go_enter Tryz.func156,Tryz.ntmps156
  go_wp2_with fail
  rw [← HW1.out]
  refine HM.out.mono ?_
  rintro e w2 ⟨rfl,hb⟩
  have HW2:=Lib.hid hb
  have HTT:=Lib.hid (fun (W:World) (hW:Below w1.heap.size w1 W) => show W.cell? ⟨q,0,none⟩=some (.int .i64 tr)∧W.cell? ⟨q,1,none⟩=some (.int .i64 id)∧W.cell? ⟨q,2,none⟩=some (.int .i64 pa)∧W.cell? ⟨q,3,none⟩=some (.string se)∧W.cell? ⟨q,4,none⟩=some (.string ho)∧W.cell? ⟨q,5,none⟩=some (.int .i64 sa)∧W.cell? ⟨q,6,none⟩=some (.int .i64 du)∧W.cell? ⟨q,7,none⟩=some (.string no) from by
   have k:=HCS.out W hW
   exact ⟨k.cell 0,k.cell 1,k.cell 2,k.cell 3,k.cell 4,k.cell 5,k.cell 6,k.cell 7⟩)
  clear hb c0 c1 c2 c3 c4 c5 c6 c7 HM HCS
  rw [← hq]
  clear hq
  obtain ⟨x1,hx1⟩:∃ x,x=w2.drew:=⟨_,rfl⟩
  have HX1:=Lib.hid (show Below w1.heap.size w1 x1 by rw [hx1];exact HW2.out.drew)
  have hT:=HTT.out x1 HX1.out
  have hS:True:=trivial
  go_wp2_with fail
  refine wp_region_two (T:=fun W => W.cell? ⟨q,0,none⟩=some (.int .i64 tr)∧W.cell? ⟨q,1,none⟩=some (.int .i64 id)∧W.cell? ⟨q,2,none⟩=some (.int .i64 pa)∧W.cell? ⟨q,3,none⟩=some (.string se)∧W.cell? ⟨q,4,none⟩=some (.string ho)∧W.cell? ⟨q,5,none⟩=some (.int .i64 sa)∧W.cell? ⟨q,6,none⟩=some (.int .i64 du)∧W.cell? ⟨q,7,none⟩=some (.string no)) (S:=fun _ => True) (n:=99) (by kernel_rfl) ?_
  rw [← hx1]
  clear hx1
  refine tk 0 8 hT hS ?_
  refine tk 1 9 hT hS ?_
  try simp only [xq]
  refine tk 3 11 hT hS ?_
  refine tk 4 12 hT hS ?_
  try simp only [xq]
  refine tk 7 15 hT hS ?_
  refine tk 8 16 hT hS ?_
  try simp only [xq]
  refine tk 11 19 hT hS ?_
  refine tk 12 20 hT hS ?_
  try simp only [xq]
  refine tk 15 23 hT hS ?_
  refine tk 16 24 hT hS ?_
  try simp only [xq]
  refine two_one 2 rfl (by kernel_rfl) ?_
  intro K0 hK0
  go_simp
  refine (P1.out _).mono ?_
  rintro e y1 ⟨rfl,hb⟩
  have Hy1:=Lib.hid (HX1.out.trans (hb.mono HX1.out.size))
  have hT3:=HTT.out y1 Hy1.out
  refine hK0.out _ _ hT3 (fun _ _ => hS) ?_
  clear hK0 K0 hT hb
  have hT:=hT3
  clear hT3
  try simp only [xq]
  refine two_one 5 rfl (by kernel_rfl) ?_
  intro K0 hK0
  go_simp
  refine (P2.out _).mono ?_
  rintro e y2 ⟨rfl,hb⟩
  have Hy2:=Lib.hid (Hy1.out.trans (hb.mono Hy1.out.size))
  have hT3:=HTT.out y2 Hy2.out
  refine hK0.out _ _ hT3 (fun _ _ => hS) ?_
  clear hK0 K0 hT hb
  have hT:=hT3
  clear hT3
  try simp only [xq]
  refine tk 6 14 hT hS ?_
  try simp only [xq]
  refine two_one 9 rfl (by kernel_rfl) ?_
  intro K0 hK0
  go_simp
  refine (P3.out _).mono ?_
  rintro e y3 ⟨rfl,hb⟩
  have Hy3:=Lib.hid (Hy2.out.trans (hb.mono Hy2.out.size))
  have hT3:=HTT.out y3 Hy3.out
  refine hK0.out _ _ hT3 (fun _ _ => hS) ?_
  clear hK0 K0 hT hb
  have hT:=hT3
  clear hT3
  try simp only [xq]
  refine tk 10 18 hT hS ?_
  try simp only [xq]
  refine two_one 13 rfl (by kernel_rfl) ?_
  intro K0 hK0
  go_simp
  refine (P4.out _).mono ?_
  rintro e y4 ⟨rfl,hb⟩
  have Hy4:=Lib.hid (Hy3.out.trans (hb.mono Hy3.out.size))
  have hT3:=HTT.out y4 Hy4.out
  refine hK0.out _ _ hT3 (fun _ _ => hS) ?_
  clear hK0 K0 hT hb
  have hT:=hT3
  clear hT3
  try simp only [xq]
  refine tk 14 22 hT hS ?_
  try simp only [xq]
  refine two_one 17 rfl (by kernel_rfl) ?_
  intro K0 hK0
  go_simp
  refine (P5.out _).mono ?_
  rintro e y5 ⟨rfl,hb⟩
  have Hy5:=Lib.hid (Hy4.out.trans (hb.mono Hy4.out.size))
  have hT3:=HTT.out y5 Hy5.out
  refine hK0.out _ _ hT3 (fun _ _ => hS) ?_
  clear hK0 K0 hT hb
  have hT:=hT3
  clear hT3
  try simp only [xq]
  refine tk 18 26 hT hS ?_
  refine tk 19 4 hT hS ?_
  try simp only [xq]
  refine two_done (by kernel_rfl) ?_ _
  clear hT P1 P2 P3 P4 P5
  obtain ⟨x2,hx2⟩:∃ x,x=y5.drew:=⟨_,rfl⟩
  have HX2:=Lib.hid (show Below w1.heap.size w1 x2 by rw [hx2];exact Hy5.out.drew)
  have hT:=HTT.out x2 HX2.out
  obtain ⟨s9,hs9⟩:∃ s,s=s1++s2++s3++s4++s5:=⟨_,rfl⟩
  have hz9:s9.size≤45:=by rw [hs9];simp only [ByteArray.size_append];omega
  rw [← hs9]
  have HS9:=Lib.hid hs9
  clear hs9 sz1 sz2 sz3 sz4
  have sz1:¬ 9223372036854775807<s9.size+s6.size:=by omega
  have sz2:¬ 9223372036854775807<s9.size+s6.size+s7.size:=by omega
  have sz3:¬ 9223372036854775807<s9.size+s6.size+s7.size+s8.size:=by omega
  go_wp2_with fail
  refine wp_region_two (T:=fun W => W.cell? ⟨q,0,none⟩=some (.int .i64 tr)∧W.cell? ⟨q,1,none⟩=some (.int .i64 id)∧W.cell? ⟨q,2,none⟩=some (.int .i64 pa)∧W.cell? ⟨q,3,none⟩=some (.string se)∧W.cell? ⟨q,4,none⟩=some (.string ho)∧W.cell? ⟨q,5,none⟩=some (.int .i64 sa)∧W.cell? ⟨q,6,none⟩=some (.int .i64 du)∧W.cell? ⟨q,7,none⟩=some (.string no)) (S:=fun _ => True) (n:=99) (by kernel_rfl) ?_
  rw [← hx2]
  clear hx2
  refine tk 0 27 hT hS ?_
  refine tk 1 28 hT hS ?_
  try simp only [xq]
  refine tk 2 29 hT hS ?_
  refine tk 5 32 hT hS ?_
  try simp only [xq]
  refine tk 6 33 hT hS ?_
  refine tk 9 36 hT hS ?_
  try simp only [xq]
  refine tk 10 37 hT hS ?_
  try simp only [xq]
  refine two_one 3 rfl (by kernel_rfl) ?_
  intro K0 hK0
  go_simp
  refine (P6.out _).mono ?_
  rintro e y6 ⟨rfl,hb⟩
  have Hy6:=Lib.hid (HX2.out.trans (hb.mono HX2.out.size))
  have hT3:=HTT.out y6 Hy6.out
  refine hK0.out _ _ hT3 (fun _ _ => hS) ?_
  clear hK0 K0 hT hb
  have hT:=hT3
  clear hT3
  try simp only [xq]
  refine tk 4 31 hT hS ?_
  try simp only [xq]
  refine two_one 7 rfl (by kernel_rfl) ?_
  intro K0 hK0
  go_simp
  refine (P7.out _).mono ?_
  rintro e y7 ⟨rfl,hb⟩
  have Hy7:=Lib.hid (Hy6.out.trans (hb.mono Hy6.out.size))
  have hT3:=HTT.out y7 Hy7.out
  refine hK0.out _ _ hT3 (fun _ _ => hS) ?_
  clear hK0 K0 hT hb
  have hT:=hT3
  clear hT3
  try simp only [xq]
  refine tk 8 35 hT hS ?_
  try simp only [xq]
  refine two_one 11 rfl (by kernel_rfl) ?_
  intro K0 hK0
  go_simp
  refine (P8.out _).mono ?_
  rintro e y8 ⟨rfl,hb⟩
  have Hy8:=Lib.hid (Hy7.out.trans (hb.mono Hy7.out.size))
  have hT3:=HTT.out y8 Hy8.out
  refine hK0.out _ _ hT3 (fun _ _ => hS) ?_
  clear hK0 K0 hT hb
  have hT:=hT3
  clear hT3
  try simp only [xq]
  refine tk 12 39 hT hS ?_
  refine tk 13 2 hT hS ?_
  try simp only [xq]
  refine tk 14 3 hT hS ?_
  try simp only [xq]
  refine two_done (by kernel_rfl) ?_ _
  clear hT P6 P7 P8
  go_wp2_with fail
  refine bodyPost_ret (v:=.tuple #[.string (s9++s6++s7++s8),.int .i64 0]) (by simp [results,Tryz.results156,go_sem]) rfl ?_
  exact ⟨by rw [HS9.out],HB1.out.trans (Hy8.out.mono HB1.out.size)⟩
end Go.Proofs.YtdacanghbepjpaaGreatDoor

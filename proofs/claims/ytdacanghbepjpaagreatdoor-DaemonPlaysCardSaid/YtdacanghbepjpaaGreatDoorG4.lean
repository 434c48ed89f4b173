/- A span: its name's law; its numbers and texts: walked. A span: may it be; as bytes: walked. A span as bytes: walked. A span's bytes read back: walked. A span's bytes decoded: walked. -/
import Derived.Test.YtdacanghbepjpaaGreatDoorM5
import Derived.Test.YtdacanghbepjpaaGreatDoorHlShelf
import Derived.Test.YtdacanghbepjpaaGreatDoorSink2
import Derived.Test.YtdacanghbepjpaaGreatDoorG3
import Derived.Lib.DecodeN
import Derived.Test.YtdacanghbepjpaaGreatDoorG2
namespace Go.Proofs.YtdacanghbepjpaaGreatDoor
set_option linter.unusedSimpArgs false
set_option linter.unusedVariables false
set_option maxRecDepth 100000
open Go.RowKit Go.Lib
def oddP (x:Nat):Bool:=decide (x≤32) || decide (126<x)
theorem decN_hi {n b0 b1 b2 b3:Nat} (h:128≤b0):128≤(decodeN n b0 b1 b2 b3).1:=by
 unfold decodeN
 rw [if_neg (by omega)]
 repeat' split
 all_goals simp only
 all_goals omega
theorem decN_lo {n b0 b1 b2 b3:Nat} (h:b0<128):decodeN n b0 b1 b2 b3=(b0,1):=by unfold decodeN;rw [if_pos h]
theorem idx_odd (s:ByteArray):∀ (f pos:Nat),s.size≤pos+f→(0≤idxFuncFrom oddP true s f pos↔∃ i,pos≤i∧i<s.size∧oddP (s.get! i).toNat=true)
 | 0,pos,h => by
  unfold idxFuncFrom
  constructor
  · intro h;omega
  · rintro ⟨i,h1,h2,_⟩;omega
 | f+1,pos,h => by
  unfold idxFuncFrom
  by_cases hp:pos<s.size
  · rw [if_pos hp,decode_at]
    by_cases hb:(s.get! pos).toNat<128
    · rw [decN_lo hb]
      simp only
      by_cases ho:oddP (s.get! pos).toNat=true
      · rw [if_pos ho]
        exact ⟨fun _ => ⟨pos,Nat.le_refl _,hp,ho⟩,fun _ => by omega⟩
      · rw [if_neg ho,idx_odd s f (pos+1) (by omega)]
        constructor
        · rintro ⟨i,h1,h2,h3⟩;exact ⟨i,by omega,h2,h3⟩
        · rintro ⟨i,h1,h2,h3⟩
          refine ⟨i,?_,h2,h3⟩
          by_cases e:i=pos
          · subst e;exact absurd h3 ho
          · omega
    · have h1:=decN_hi (n:=s.size-pos) (b1:=(s.get! (pos+1)).toNat) (b2:=(s.get! (pos+2)).toNat) (b3:=(s.get! (pos+3)).toNat) (show 128≤(s.get! pos).toNat by omega)
      rw [if_pos (by unfold oddP;rw [Bool.or_eq_true];exact .inr (decide_eq_true (by omega)))]
      exact ⟨fun _ => ⟨pos,Nat.le_refl _,hp,by unfold oddP;rw [Bool.or_eq_true];exact .inr (decide_eq_true (by omega))⟩,fun _ => by omega⟩
  · rw [if_neg hp]
    constructor
    · intro h;omega
    · rintro ⟨i,h1,h2,_⟩;omega
theorem name_iff (s:ByteArray):Sp.NameOk s↔(1≤s.size∧s.size≤12)∧¬ 0≤idxFunc oddP true s:=by
 unfold idxFunc
 rw [idx_odd s s.size 0 (by omega)]
 unfold Sp.NameOk
 constructor
 · rintro ⟨h1,h2,h3⟩
   refine ⟨⟨h1,h2⟩,?_⟩
   rintro ⟨i,_,hi,ho⟩
   have hm:s.get! i∈s.data.toList:=by
    have:s.get! i=s.data[i]'(by simpa using hi):=by simp [ByteArray.get!,getElem!_pos,hi]
    rw [this]
    exact Array.mem_toList_iff.2 (Array.getElem_mem _)
   have:=h3 _ hm
   unfold oddP at ho
   simp at ho
   omega
 · rintro ⟨⟨h1,h2⟩,h3⟩
   refine ⟨h1,h2,fun c hc => ?_⟩
   obtain ⟨i,hi,rfl⟩:=List.mem_iff_getElem.1 hc
   have hi2:i<s.size:=by simpa using hi
   have e:s.get! i=s.data.toList[i]:=by simp [ByteArray.get!,getElem!_pos,hi2]
   rw [← e]
   apply Classical.byContradiction
   intro hno
   apply h3
   refine ⟨i,Nat.zero_le _,hi2,?_⟩
   unfold oddP
   simp
   omega
section
variable {w0 w w':World}
theorem odd_any (x:Nat) (hx:x≤1114111):Calls Tryz.prog 198 #[.int .i32 x] w fun e w' => e=.returned (.bool (oddP x))∧Below w.heap.size w w':=by
 obtain ⟨r,hr⟩:∃ r,r=oddP x:=⟨_,rfl⟩
 rw [← hr]
 have HR:=Lib.hid hr
 clear hr
 by_cases h1:x≤32
 · have t1:(x:Int)≤32:=by omega
   have HV:=Lib.hid (show r=true by rw [HR.out];unfold oddP;rw [decide_eq_true h1];rfl)
   go_enter Tryz.func198,Tryz.ntmps198
   go_wp2_with fail
   go_ret
   rw [HV.out]
   exact ⟨rfl,Below.refl _ _⟩
 · have t1:¬ (x:Int)≤32:=by omega
   by_cases h2:126<x
   · have t2:(126:Int)<x:=by omega
     have HV:=Lib.hid (show r=true by rw [HR.out];unfold oddP;rw [decide_eq_true h2,Bool.or_true])
     go_enter Tryz.func198,Tryz.ntmps198
     go_wp2_with fail
     go_ret
     rw [HV.out]
     exact ⟨rfl,Below.refl _ _⟩
   · have t2:¬ (126:Int)<x:=by omega
     have HV:=Lib.hid (show r=false by rw [HR.out];unfold oddP;rw [decide_eq_false h1,decide_eq_false h2];rfl)
     go_enter Tryz.func198,Tryz.ntmps198
     go_wp2_with fail
     go_ret
     rw [HV.out]
     exact ⟨rfl,Below.refl _ _⟩
theorem hname_any (s:ByteArray) (hs:s.size≤maxLen):Calls Tryz.prog 173 #[.string s] w fun e w' => e=.returned (.bool (decide (Sp.NameOk s)))∧Below w.heap.size w w':=by
 have HCF:=Lib.hid (Tryz.strings_ContainsFunc_grows 198 #[] (fun args w => rfl) oddP s w (fun W x hx _ => odd_any (w:=W) x hx))
 have hn:=name_iff s
 obtain ⟨r,hr⟩:∃ r,r=decide (Sp.NameOk s):=⟨_,rfl⟩
 obtain ⟨cf,hcf⟩:∃ cf,cf=decide (0≤idxFunc oddP true s):=⟨_,rfl⟩
 rw [← hcf] at HCF
 rw [← hr]
 have HV:=Lib.hid (show r=(decide (1≤s.size) && decide (s.size≤12) && !cf) by
  rw [hr,hcf]
  simp only [hn]
  by_cases h1:1≤s.size <;> by_cases h2:s.size≤12 <;> by_cases h3:0≤idxFunc oddP true s <;> simp [h1,h2,h3])
 have hm:s.size≤9223372036854775807:=by unfold maxLen at hs;omega
 clear hr hcf hn hs
 by_cases h1:s.size=0
 · have hs:s=⟨#[]⟩:=by
    apply ByteArray.ext
    exact Array.size_eq_zero_iff.1 h1
   have HV2:=Lib.hid (show r=false by rw [HV.out,h1];rfl)
   subst hs
   clear h1
   go_enter Tryz.func173,Tryz.ntmps173
   go_wp2_with fail
   go_ret
   rw [HV2.out]
   exact ⟨rfl,Below.refl _ _⟩
 · have hne:(s.toList == [])=false:=by
    rw [beq_eq_false_iff_ne]
    intro e
    have:=congrArg List.length e
    rw [ByteArray.toList_eq] at this
    simp at this
    exact h1 (by rw [this];rfl)
   by_cases h2:s.size≤12
   · have t2:(s.size:Int)≤12:=by omega
     have HV2:=Lib.hid (show r=!cf by rw [HV.out,decide_eq_true (show 1≤s.size by omega),decide_eq_true h2];rfl)
     go_enter Tryz.func173,Tryz.ntmps173
     go_wp2_with fail
     refine HCF.out.mono ?_
     rintro e w1 ⟨rfl,hb⟩
     have HB:=Lib.hid hb
     clear hb
     go_wp2_with fail
     go_ret
     rw [HV2.out]
     exact ⟨by cases cf <;> rfl,HB.out⟩
   · have t2:¬ (s.size:Int)≤12:=by omega
     have HV2:=Lib.hid (show r=false by rw [HV.out,decide_eq_false h2];simp)
     go_enter Tryz.func173,Tryz.ntmps173
     go_wp2_with fail
     go_ret
     rw [HV2.out]
     exact ⟨rfl,Below.refl _ _⟩
def numsV (b:Nat):Value:=.agg #[.pointer (some ⟨b,0,none⟩),.int .i64 1,.int .i64 2147483647,.pointer (some ⟨b,1,none⟩),.int .i64 1,.int .i64 2147483647,.pointer (some ⟨b,2,none⟩),.int .i64 0,.int .i64 2147483647,.pointer (some ⟨b,5,none⟩),.int .i64 0,.int .i64 1073741824,.pointer (some ⟨b,6,none⟩),.int .i64 0,.int .i64 1073741824]
theorem hnums_any (b:Nat):Calls Tryz.prog 129 #[.pointer (some ⟨b,0,none⟩)] w fun e w' => e=.returned (numsV b)∧Below w.heap.size w w':=by
 go_enter Tryz.func129,Tryz.ntmps129
 go_wp2_with fail
 refine wp_region_two (T:=fun _ => True) (S:=fun _ => True) (n:=99) (by kernel_rfl) ?_
 have hT:True:=trivial
 have hS:True:=trivial
 refine tk 0 3 hT hS ?_
 refine tk 1 4 hT hS ?_
 try simp only [xq]
 refine tk 2 5 hT hS ?_
 refine tk 3 6 hT hS ?_
 try simp only [xq]
 refine tk 4 7 hT hS ?_
 refine tk 5 8 hT hS ?_
 try simp only [xq]
 refine tk 6 9 hT hS ?_
 refine tk 7 10 hT hS ?_
 try simp only [xq]
 refine tk 8 11 hT hS ?_
 refine tk 9 12 hT hS ?_
 try simp only [xq]
 refine tk 10 13 hT hS ?_
 refine tk 11 14 hT hS ?_
 try simp only [xq]
 refine tk 12 15 hT hS ?_
 refine tk 13 16 hT hS ?_
 try simp only [xq]
 refine tk 14 17 hT hS ?_
 refine tk 15 18 hT hS ?_
 try simp only [xq]
 refine tk 16 19 hT hS ?_
 refine tk 17 20 hT hS ?_
 try simp only [xq]
 refine tk 18 21 hT hS ?_
 refine tk 19 22 hT hS ?_
 try simp only [xq]
 refine tk 20 23 hT hS ?_
 try simp only [xq]
 refine two_one 21 rfl (by kernel_rfl) ?_
 intro K hK
 go_simp
 refine hK.out _ _ trivial (fun _ _ => trivial) ?_
 clear hK K
 try simp only [xq]
 refine two_done (by kernel_rfl) ?_ _
 clear hT hS
 go_wp2_with fail
 refine bodyPost_ret (v:=numsV b) (by simp [results,Tryz.results129,go_sem,numsV]) rfl ⟨rfl,(((Below.refl _ _).alloc (Nat.le_refl _) _).drew)⟩
def txtsV (b:Nat):Value:=.agg #[.pointer (some ⟨b,3,none⟩),.pointer (some ⟨b,4,none⟩),.pointer (some ⟨b,7,none⟩)]
theorem htxts_any (b:Nat):Calls Tryz.prog 132 #[.pointer (some ⟨b,0,none⟩)] w fun e w' => e=.returned (txtsV b)∧Below w.heap.size w w':=by
 go_enter Tryz.func132,Tryz.ntmps132
 go_wp2_with fail
 refine wp_region_two (T:=fun _ => True) (S:=fun _ => True) (n:=99) (by kernel_rfl) ?_
 have hT:True:=trivial
 have hS:True:=trivial
 refine tk 0 3 hT hS ?_
 refine tk 1 4 hT hS ?_
 try simp only [xq]
 refine tk 2 5 hT hS ?_
 refine tk 3 6 hT hS ?_
 try simp only [xq]
 refine tk 4 7 hT hS ?_
 refine tk 5 8 hT hS ?_
 try simp only [xq]
 refine tk 6 9 hT hS ?_
 refine tk 7 10 hT hS ?_
 try simp only [xq]
 refine tk 8 11 hT hS ?_
 refine tk 9 12 hT hS ?_
 try simp only [xq]
 refine two_one 10 rfl (by kernel_rfl) ?_
 intro K hK
 go_simp
 refine hK.out _ _ trivial (fun _ _ => trivial) ?_
 clear hK K
 try simp only [xq]
 refine two_done (by kernel_rfl) ?_ _
 clear hT hS
 go_wp2_with fail
 refine bodyPost_ret (v:=txtsV b) (by simp [results,Tryz.results132,go_sem,txtsV]) rfl ⟨rfl,(((Below.refl _ _).alloc (Nat.le_refl _) _).drew)⟩
end
end Go.Proofs.YtdacanghbepjpaaGreatDoor
namespace Go.Proofs.YtdacanghbepjpaaGreatDoor
set_option linter.unusedSimpArgs false
set_option linter.unusedVariables false
set_option maxRecDepth 100000
open Go.RowKit
section
variable {w0 w w':World}
theorem num_at0 (b:Nat) (W:World):(Instr.index 167 (.agg #[.pointer (some ⟨b,0,none⟩),.int .i64 1,.int .i64 2147483647,.pointer (some ⟨b,1,none⟩),.int .i64 1,.int .i64 2147483647,.pointer (some ⟨b,2,none⟩),.int .i64 0,.int .i64 2147483647,.pointer (some ⟨b,5,none⟩),.int .i64 0,.int .i64 1073741824,.pointer (some ⟨b,6,none⟩),.int .i64 0,.int .i64 1073741824]) (.int .i64 0)).run Tryz.prog W=.ok (.agg #[.pointer (some ⟨b,0,none⟩),.int .i64 1,.int .i64 2147483647]) W:=by rfl
theorem num_at1 (b:Nat) (W:World):(Instr.index 167 (.agg #[.pointer (some ⟨b,0,none⟩),.int .i64 1,.int .i64 2147483647,.pointer (some ⟨b,1,none⟩),.int .i64 1,.int .i64 2147483647,.pointer (some ⟨b,2,none⟩),.int .i64 0,.int .i64 2147483647,.pointer (some ⟨b,5,none⟩),.int .i64 0,.int .i64 1073741824,.pointer (some ⟨b,6,none⟩),.int .i64 0,.int .i64 1073741824]) (.int .i64 1)).run Tryz.prog W=.ok (.agg #[.pointer (some ⟨b,1,none⟩),.int .i64 1,.int .i64 2147483647]) W:=by rfl
theorem num_at2 (b:Nat) (W:World):(Instr.index 167 (.agg #[.pointer (some ⟨b,0,none⟩),.int .i64 1,.int .i64 2147483647,.pointer (some ⟨b,1,none⟩),.int .i64 1,.int .i64 2147483647,.pointer (some ⟨b,2,none⟩),.int .i64 0,.int .i64 2147483647,.pointer (some ⟨b,5,none⟩),.int .i64 0,.int .i64 1073741824,.pointer (some ⟨b,6,none⟩),.int .i64 0,.int .i64 1073741824]) (.int .i64 2)).run Tryz.prog W=.ok (.agg #[.pointer (some ⟨b,2,none⟩),.int .i64 0,.int .i64 2147483647]) W:=by rfl
theorem num_at3 (b:Nat) (W:World):(Instr.index 167 (.agg #[.pointer (some ⟨b,0,none⟩),.int .i64 1,.int .i64 2147483647,.pointer (some ⟨b,1,none⟩),.int .i64 1,.int .i64 2147483647,.pointer (some ⟨b,2,none⟩),.int .i64 0,.int .i64 2147483647,.pointer (some ⟨b,5,none⟩),.int .i64 0,.int .i64 1073741824,.pointer (some ⟨b,6,none⟩),.int .i64 0,.int .i64 1073741824]) (.int .i64 3)).run Tryz.prog W=.ok (.agg #[.pointer (some ⟨b,5,none⟩),.int .i64 0,.int .i64 1073741824]) W:=by rfl
theorem num_at4 (b:Nat) (W:World):(Instr.index 167 (.agg #[.pointer (some ⟨b,0,none⟩),.int .i64 1,.int .i64 2147483647,.pointer (some ⟨b,1,none⟩),.int .i64 1,.int .i64 2147483647,.pointer (some ⟨b,2,none⟩),.int .i64 0,.int .i64 2147483647,.pointer (some ⟨b,5,none⟩),.int .i64 0,.int .i64 1073741824,.pointer (some ⟨b,6,none⟩),.int .i64 0,.int .i64 1073741824]) (.int .i64 4)).run Tryz.prog W=.ok (.agg #[.pointer (some ⟨b,6,none⟩),.int .i64 0,.int .i64 1073741824]) W:=by rfl
def NumsOk (x:Sp.Span) (k:Nat):Prop:=(0<k→1≤x.trace∧x.trace≤2147483647)∧(1<k→1≤x.id∧x.id≤2147483647)∧(2<k→0≤x.parent∧x.parent≤2147483647)∧(3<k→0≤x.start∧x.start≤1073741824)∧(4<k→0≤x.dur∧x.dur≤1073741824)
set_option maxHeartbeats 4000000 in
theorem hcheck_any (x:Sp.Span) (h1:x.service.size≤maxLen) (h2:x.host.size≤maxLen) (h3:x.note.size≤maxLen) :
  Calls Tryz.prog 128 #[spV x] w fun e w' => e=.returned (.int .i64 (if Sp.May x then 0 else 2))∧Below w.heap.size w w':=by
 have HN1:=Lib.hid (fun W:World => hname_any (w:=W) x.service h1)
 have HN2:=Lib.hid (fun W:World => hname_any (w:=W) x.host h2)
 obtain ⟨r,hr⟩:∃ r:Int,r=if Sp.May x then 0 else 2:=⟨_,rfl⟩
 rw [← hr]
 have HR:=Lib.hid hr
 obtain ⟨q,hq⟩:∃ q,q=w.heap.size:=⟨_,rfl⟩
 obtain ⟨w1,hw1⟩:∃ w1,w1=w.alloc (.cells #[.int .i64 x.trace,.int .i64 x.id,.int .i64 x.parent,.string x.service,.string x.host,.int .i64 x.start,.int .i64 x.dur,.string x.note] 47 (0,0)):=⟨_,rfl⟩
 have hb1:Below w.heap.size w w1:=by rw [hw1];exact (Below.refl _ _).alloc (Nat.le_refl _) _
 have hk1:Blk w1 q 47 #[.int .i64 x.trace,.int .i64 x.id,.int .i64 x.parent,.string x.service,.string x.host,.int .i64 x.start,.int .i64 x.dur,.string x.note]:=by rw [hw1,hq];exact Blk.alloc_new w _ _
 have hqz:=hk1.lt
 have HNS:=Lib.hid (hnums_any (w:=w1) q)
 have HFIN:=Lib.hid (fun (W:World) (hW:Below w1.heap.size w1 W) => show Below w.heap.size w W from hb1.trans (hW.mono hb1.size))
 have HK1:=Lib.hid hk1
 have HW1:=Lib.hid hw1
 unfold spV
 obtain ⟨tr,id,pa,se,ho,sa,du,no⟩:=x
 simp only at HN1 HN2 HK1 HW1 HR ⊢
 unfold numsV at HNS
 clear hr hb1 hk1 hw1 h1 h2 h3
 go_enter Tryz.func128,Tryz.ntmps128
 go_wp2_with fail
 rw [← HW1.out,← hq]
 clear hq
 refine HNS.out.mono ?_
 rintro e w2 ⟨rfl,hb2⟩
 have HB2:=Lib.hid hb2
 clear hb2
 go_wp2_with fail
 go_loopw [4,6] (fun _ v6 wr => ∃ k:Nat,v6=.int .i64 k∧k≤5∧NumsOk ⟨tr,id,pa,se,ho,sa,du,no⟩ k∧Below w1.heap.size w1 wr) (fun _ v6 _ => 5-(intOf v6).toNat)
 case atStart => exact ⟨0,rfl,by omega,⟨fun h => absurd h (by omega),fun h => absurd h (by omega),fun h => absurd h (by omega),fun h => absurd h (by omega),fun h => absurd h (by omega)⟩,HB2.out⟩
 case round =>
  obtain ⟨k,rfl,hk,hno,hb⟩:=hrel
  have HB:=Lib.hid hb
  have HNO:=Lib.hid hno
  clear hb hno
  rcases (show k=0∨k=1∨k=2∨k=3∨k=4∨k=5 by omega) with rfl | rfl | rfl | rfl | rfl | rfl
  · have hix:=fun W => num_at0 q W
    by_cases hlo:tr<1
    · have HV:=Lib.hid (show r=2 by rw [HR.out,if_neg];intro hm;have h5:=hm.trace;simp only at h5;omega)
      go_wp2_with fail
      obtain ⟨p,hp⟩:∃ p,p=wr.heap.size:=⟨_,rfl⟩
      obtain ⟨wn,hwn⟩:∃ wn,wn=wr.alloc (.cells #[.pointer (some ⟨q,0,none⟩),.int .i64 1,.int .i64 2147483647] 166 (0,0)):=⟨_,rfl⟩
      rw [← hwn,← hp]
      have hbn:Below wr.heap.size wr wn:=by rw [hwn];exact (Below.refl _ _).alloc (Nat.le_refl _) _
      have hkn:Blk wn p 166 #[.pointer (some ⟨q,0,none⟩),.int .i64 1,.int .i64 2147483647]:=by rw [hwn,hp];exact Blk.alloc_new wr _ _
      have HBN:=Lib.hid (HB.out.trans (hbn.mono HB.out.size))
      have g0:=(HBN.out.cell (p:=⟨q,0,none⟩) hqz).trans (HK1.out.cell 0)
      have n0:=hkn.cell 0
      have n1:=hkn.cell 1
      have n2:=hkn.cell 2
      simp at g0 n0 n1 n2
      clear hp hwn hbn hkn
      go_quiet (fail)
      go_wp2_with fail
      go_ret
      rw [HV.out]
      exact ⟨rfl,HFIN.out _ (HBN.out.trans ((belowD _ _).mono HBN.out.size))⟩
    · by_cases hhi:2147483647<tr
      · have HV:=Lib.hid (show r=2 by rw [HR.out,if_neg];intro hm;have h5:=hm.trace;simp only at h5;omega)
        go_wp2_with fail
        obtain ⟨p,hp⟩:∃ p,p=wr.heap.size:=⟨_,rfl⟩
        obtain ⟨wn,hwn⟩:∃ wn,wn=wr.alloc (.cells #[.pointer (some ⟨q,0,none⟩),.int .i64 1,.int .i64 2147483647] 166 (0,0)):=⟨_,rfl⟩
        rw [← hwn,← hp]
        have hbn:Below wr.heap.size wr wn:=by rw [hwn];exact (Below.refl _ _).alloc (Nat.le_refl _) _
        have hkn:Blk wn p 166 #[.pointer (some ⟨q,0,none⟩),.int .i64 1,.int .i64 2147483647]:=by rw [hwn,hp];exact Blk.alloc_new wr _ _
        have HBN:=Lib.hid (HB.out.trans (hbn.mono HB.out.size))
        have g0:=(HBN.out.cell (p:=⟨q,0,none⟩) hqz).trans (HK1.out.cell 0)
        have n0:=hkn.cell 0
        have n1:=hkn.cell 1
        have n2:=hkn.cell 2
        simp at g0 n0 n1 n2
        clear hp hwn hbn hkn
        go_quiet (fail)
        go_wp2_with fail
        go_ret
        rw [HV.out]
        exact ⟨rfl,HFIN.out _ (HBN.out.trans ((belowD _ _).mono HBN.out.size))⟩
      · have HNK:=Lib.hid (show NumsOk ⟨tr,id,pa,se,ho,sa,du,no⟩ (0+1) from by
         obtain ⟨a0,a1,a2,a3,a4⟩:=HNO.out
         refine ⟨fun _ => ?_,fun _ => ?_,fun _ => ?_,fun _ => ?_,fun _ => ?_⟩
         all_goals first | exact a0 (by omega) | exact a1 (by omega) | exact a2 (by omega) | exact a3 (by omega) | exact a4 (by omega) | omega | (simp only;omega))
        go_wp2_with fail
        obtain ⟨p,hp⟩:∃ p,p=wr.heap.size:=⟨_,rfl⟩
        obtain ⟨wn,hwn⟩:∃ wn,wn=wr.alloc (.cells #[.pointer (some ⟨q,0,none⟩),.int .i64 1,.int .i64 2147483647] 166 (0,0)):=⟨_,rfl⟩
        rw [← hwn,← hp]
        have hbn:Below wr.heap.size wr wn:=by rw [hwn];exact (Below.refl _ _).alloc (Nat.le_refl _) _
        have hkn:Blk wn p 166 #[.pointer (some ⟨q,0,none⟩),.int .i64 1,.int .i64 2147483647]:=by rw [hwn,hp];exact Blk.alloc_new wr _ _
        have HBN:=Lib.hid (HB.out.trans (hbn.mono HB.out.size))
        have g0:=(HBN.out.cell (p:=⟨q,0,none⟩) hqz).trans (HK1.out.cell 0)
        have n0:=hkn.cell 0
        have n1:=hkn.cell 1
        have n2:=hkn.cell 2
        simp at g0 n0 n1 n2
        clear hp hwn hbn hkn
        go_quiet (fail)
        go_wp2_with fail
        go_roundw
        case rel => exact ⟨0+1,by go_num,by omega,HNK.out,HBN.out.trans ((belowD _ _).mono HBN.out.size)⟩
        case measure => simp [intOf]
  · have hix:=fun W => num_at1 q W
    by_cases hlo:id<1
    · have HV:=Lib.hid (show r=2 by rw [HR.out,if_neg];intro hm;have h5:=hm.id;simp only at h5;omega)
      go_wp2_with fail
      obtain ⟨p,hp⟩:∃ p,p=wr.heap.size:=⟨_,rfl⟩
      obtain ⟨wn,hwn⟩:∃ wn,wn=wr.alloc (.cells #[.pointer (some ⟨q,1,none⟩),.int .i64 1,.int .i64 2147483647] 166 (0,0)):=⟨_,rfl⟩
      rw [← hwn,← hp]
      have hbn:Below wr.heap.size wr wn:=by rw [hwn];exact (Below.refl _ _).alloc (Nat.le_refl _) _
      have hkn:Blk wn p 166 #[.pointer (some ⟨q,1,none⟩),.int .i64 1,.int .i64 2147483647]:=by rw [hwn,hp];exact Blk.alloc_new wr _ _
      have HBN:=Lib.hid (HB.out.trans (hbn.mono HB.out.size))
      have g0:=(HBN.out.cell (p:=⟨q,1,none⟩) hqz).trans (HK1.out.cell 1)
      have n0:=hkn.cell 0
      have n1:=hkn.cell 1
      have n2:=hkn.cell 2
      simp at g0 n0 n1 n2
      clear hp hwn hbn hkn
      go_quiet (fail)
      go_wp2_with fail
      go_ret
      rw [HV.out]
      exact ⟨rfl,HFIN.out _ (HBN.out.trans ((belowD _ _).mono HBN.out.size))⟩
    · by_cases hhi:2147483647<id
      · have HV:=Lib.hid (show r=2 by rw [HR.out,if_neg];intro hm;have h5:=hm.id;simp only at h5;omega)
        go_wp2_with fail
        obtain ⟨p,hp⟩:∃ p,p=wr.heap.size:=⟨_,rfl⟩
        obtain ⟨wn,hwn⟩:∃ wn,wn=wr.alloc (.cells #[.pointer (some ⟨q,1,none⟩),.int .i64 1,.int .i64 2147483647] 166 (0,0)):=⟨_,rfl⟩
        rw [← hwn,← hp]
        have hbn:Below wr.heap.size wr wn:=by rw [hwn];exact (Below.refl _ _).alloc (Nat.le_refl _) _
        have hkn:Blk wn p 166 #[.pointer (some ⟨q,1,none⟩),.int .i64 1,.int .i64 2147483647]:=by rw [hwn,hp];exact Blk.alloc_new wr _ _
        have HBN:=Lib.hid (HB.out.trans (hbn.mono HB.out.size))
        have g0:=(HBN.out.cell (p:=⟨q,1,none⟩) hqz).trans (HK1.out.cell 1)
        have n0:=hkn.cell 0
        have n1:=hkn.cell 1
        have n2:=hkn.cell 2
        simp at g0 n0 n1 n2
        clear hp hwn hbn hkn
        go_quiet (fail)
        go_wp2_with fail
        go_ret
        rw [HV.out]
        exact ⟨rfl,HFIN.out _ (HBN.out.trans ((belowD _ _).mono HBN.out.size))⟩
      · have HNK:=Lib.hid (show NumsOk ⟨tr,id,pa,se,ho,sa,du,no⟩ (1+1) from by
         obtain ⟨a0,a1,a2,a3,a4⟩:=HNO.out
         refine ⟨fun _ => ?_,fun _ => ?_,fun _ => ?_,fun _ => ?_,fun _ => ?_⟩
         all_goals first | exact a0 (by omega) | exact a1 (by omega) | exact a2 (by omega) | exact a3 (by omega) | exact a4 (by omega) | omega | (simp only;omega))
        go_wp2_with fail
        obtain ⟨p,hp⟩:∃ p,p=wr.heap.size:=⟨_,rfl⟩
        obtain ⟨wn,hwn⟩:∃ wn,wn=wr.alloc (.cells #[.pointer (some ⟨q,1,none⟩),.int .i64 1,.int .i64 2147483647] 166 (0,0)):=⟨_,rfl⟩
        rw [← hwn,← hp]
        have hbn:Below wr.heap.size wr wn:=by rw [hwn];exact (Below.refl _ _).alloc (Nat.le_refl _) _
        have hkn:Blk wn p 166 #[.pointer (some ⟨q,1,none⟩),.int .i64 1,.int .i64 2147483647]:=by rw [hwn,hp];exact Blk.alloc_new wr _ _
        have HBN:=Lib.hid (HB.out.trans (hbn.mono HB.out.size))
        have g0:=(HBN.out.cell (p:=⟨q,1,none⟩) hqz).trans (HK1.out.cell 1)
        have n0:=hkn.cell 0
        have n1:=hkn.cell 1
        have n2:=hkn.cell 2
        simp at g0 n0 n1 n2
        clear hp hwn hbn hkn
        go_quiet (fail)
        go_wp2_with fail
        go_roundw
        case rel => exact ⟨1+1,by go_num,by omega,HNK.out,HBN.out.trans ((belowD _ _).mono HBN.out.size)⟩
        case measure => simp [intOf]
  · have hix:=fun W => num_at2 q W
    by_cases hlo:pa<0
    · have HV:=Lib.hid (show r=2 by rw [HR.out,if_neg];intro hm;have h5:=hm.parent;simp only at h5;omega)
      go_wp2_with fail
      obtain ⟨p,hp⟩:∃ p,p=wr.heap.size:=⟨_,rfl⟩
      obtain ⟨wn,hwn⟩:∃ wn,wn=wr.alloc (.cells #[.pointer (some ⟨q,2,none⟩),.int .i64 0,.int .i64 2147483647] 166 (0,0)):=⟨_,rfl⟩
      rw [← hwn,← hp]
      have hbn:Below wr.heap.size wr wn:=by rw [hwn];exact (Below.refl _ _).alloc (Nat.le_refl _) _
      have hkn:Blk wn p 166 #[.pointer (some ⟨q,2,none⟩),.int .i64 0,.int .i64 2147483647]:=by rw [hwn,hp];exact Blk.alloc_new wr _ _
      have HBN:=Lib.hid (HB.out.trans (hbn.mono HB.out.size))
      have g0:=(HBN.out.cell (p:=⟨q,2,none⟩) hqz).trans (HK1.out.cell 2)
      have n0:=hkn.cell 0
      have n1:=hkn.cell 1
      have n2:=hkn.cell 2
      simp at g0 n0 n1 n2
      clear hp hwn hbn hkn
      go_quiet (fail)
      go_wp2_with fail
      go_ret
      rw [HV.out]
      exact ⟨rfl,HFIN.out _ (HBN.out.trans ((belowD _ _).mono HBN.out.size))⟩
    · by_cases hhi:2147483647<pa
      · have HV:=Lib.hid (show r=2 by rw [HR.out,if_neg];intro hm;have h5:=hm.parent;simp only at h5;omega)
        go_wp2_with fail
        obtain ⟨p,hp⟩:∃ p,p=wr.heap.size:=⟨_,rfl⟩
        obtain ⟨wn,hwn⟩:∃ wn,wn=wr.alloc (.cells #[.pointer (some ⟨q,2,none⟩),.int .i64 0,.int .i64 2147483647] 166 (0,0)):=⟨_,rfl⟩
        rw [← hwn,← hp]
        have hbn:Below wr.heap.size wr wn:=by rw [hwn];exact (Below.refl _ _).alloc (Nat.le_refl _) _
        have hkn:Blk wn p 166 #[.pointer (some ⟨q,2,none⟩),.int .i64 0,.int .i64 2147483647]:=by rw [hwn,hp];exact Blk.alloc_new wr _ _
        have HBN:=Lib.hid (HB.out.trans (hbn.mono HB.out.size))
        have g0:=(HBN.out.cell (p:=⟨q,2,none⟩) hqz).trans (HK1.out.cell 2)
        have n0:=hkn.cell 0
        have n1:=hkn.cell 1
        have n2:=hkn.cell 2
        simp at g0 n0 n1 n2
        clear hp hwn hbn hkn
        go_quiet (fail)
        go_wp2_with fail
        go_ret
        rw [HV.out]
        exact ⟨rfl,HFIN.out _ (HBN.out.trans ((belowD _ _).mono HBN.out.size))⟩
      · have HNK:=Lib.hid (show NumsOk ⟨tr,id,pa,se,ho,sa,du,no⟩ (2+1) from by
         obtain ⟨a0,a1,a2,a3,a4⟩:=HNO.out
         refine ⟨fun _ => ?_,fun _ => ?_,fun _ => ?_,fun _ => ?_,fun _ => ?_⟩
         all_goals first | exact a0 (by omega) | exact a1 (by omega) | exact a2 (by omega) | exact a3 (by omega) | exact a4 (by omega) | omega | (simp only;omega))
        go_wp2_with fail
        obtain ⟨p,hp⟩:∃ p,p=wr.heap.size:=⟨_,rfl⟩
        obtain ⟨wn,hwn⟩:∃ wn,wn=wr.alloc (.cells #[.pointer (some ⟨q,2,none⟩),.int .i64 0,.int .i64 2147483647] 166 (0,0)):=⟨_,rfl⟩
        rw [← hwn,← hp]
        have hbn:Below wr.heap.size wr wn:=by rw [hwn];exact (Below.refl _ _).alloc (Nat.le_refl _) _
        have hkn:Blk wn p 166 #[.pointer (some ⟨q,2,none⟩),.int .i64 0,.int .i64 2147483647]:=by rw [hwn,hp];exact Blk.alloc_new wr _ _
        have HBN:=Lib.hid (HB.out.trans (hbn.mono HB.out.size))
        have g0:=(HBN.out.cell (p:=⟨q,2,none⟩) hqz).trans (HK1.out.cell 2)
        have n0:=hkn.cell 0
        have n1:=hkn.cell 1
        have n2:=hkn.cell 2
        simp at g0 n0 n1 n2
        clear hp hwn hbn hkn
        go_quiet (fail)
        go_wp2_with fail
        go_roundw
        case rel => exact ⟨2+1,by go_num,by omega,HNK.out,HBN.out.trans ((belowD _ _).mono HBN.out.size)⟩
        case measure => simp [intOf]
  · have hix:=fun W => num_at3 q W
    by_cases hlo:sa<0
    · have HV:=Lib.hid (show r=2 by rw [HR.out,if_neg];intro hm;have h5:=hm.start;simp only at h5;omega)
      go_wp2_with fail
      obtain ⟨p,hp⟩:∃ p,p=wr.heap.size:=⟨_,rfl⟩
      obtain ⟨wn,hwn⟩:∃ wn,wn=wr.alloc (.cells #[.pointer (some ⟨q,5,none⟩),.int .i64 0,.int .i64 1073741824] 166 (0,0)):=⟨_,rfl⟩
      rw [← hwn,← hp]
      have hbn:Below wr.heap.size wr wn:=by rw [hwn];exact (Below.refl _ _).alloc (Nat.le_refl _) _
      have hkn:Blk wn p 166 #[.pointer (some ⟨q,5,none⟩),.int .i64 0,.int .i64 1073741824]:=by rw [hwn,hp];exact Blk.alloc_new wr _ _
      have HBN:=Lib.hid (HB.out.trans (hbn.mono HB.out.size))
      have g0:=(HBN.out.cell (p:=⟨q,5,none⟩) hqz).trans (HK1.out.cell 5)
      have n0:=hkn.cell 0
      have n1:=hkn.cell 1
      have n2:=hkn.cell 2
      simp at g0 n0 n1 n2
      clear hp hwn hbn hkn
      go_quiet (fail)
      go_wp2_with fail
      go_ret
      rw [HV.out]
      exact ⟨rfl,HFIN.out _ (HBN.out.trans ((belowD _ _).mono HBN.out.size))⟩
    · by_cases hhi:1073741824<sa
      · have HV:=Lib.hid (show r=2 by rw [HR.out,if_neg];intro hm;have h5:=hm.start;simp only at h5;omega)
        go_wp2_with fail
        obtain ⟨p,hp⟩:∃ p,p=wr.heap.size:=⟨_,rfl⟩
        obtain ⟨wn,hwn⟩:∃ wn,wn=wr.alloc (.cells #[.pointer (some ⟨q,5,none⟩),.int .i64 0,.int .i64 1073741824] 166 (0,0)):=⟨_,rfl⟩
        rw [← hwn,← hp]
        have hbn:Below wr.heap.size wr wn:=by rw [hwn];exact (Below.refl _ _).alloc (Nat.le_refl _) _
        have hkn:Blk wn p 166 #[.pointer (some ⟨q,5,none⟩),.int .i64 0,.int .i64 1073741824]:=by rw [hwn,hp];exact Blk.alloc_new wr _ _
        have HBN:=Lib.hid (HB.out.trans (hbn.mono HB.out.size))
        have g0:=(HBN.out.cell (p:=⟨q,5,none⟩) hqz).trans (HK1.out.cell 5)
        have n0:=hkn.cell 0
        have n1:=hkn.cell 1
        have n2:=hkn.cell 2
        simp at g0 n0 n1 n2
        clear hp hwn hbn hkn
        go_quiet (fail)
        go_wp2_with fail
        go_ret
        rw [HV.out]
        exact ⟨rfl,HFIN.out _ (HBN.out.trans ((belowD _ _).mono HBN.out.size))⟩
      · have HNK:=Lib.hid (show NumsOk ⟨tr,id,pa,se,ho,sa,du,no⟩ (3+1) from by
         obtain ⟨a0,a1,a2,a3,a4⟩:=HNO.out
         refine ⟨fun _ => ?_,fun _ => ?_,fun _ => ?_,fun _ => ?_,fun _ => ?_⟩
         all_goals first | exact a0 (by omega) | exact a1 (by omega) | exact a2 (by omega) | exact a3 (by omega) | exact a4 (by omega) | omega | (simp only;omega))
        go_wp2_with fail
        obtain ⟨p,hp⟩:∃ p,p=wr.heap.size:=⟨_,rfl⟩
        obtain ⟨wn,hwn⟩:∃ wn,wn=wr.alloc (.cells #[.pointer (some ⟨q,5,none⟩),.int .i64 0,.int .i64 1073741824] 166 (0,0)):=⟨_,rfl⟩
        rw [← hwn,← hp]
        have hbn:Below wr.heap.size wr wn:=by rw [hwn];exact (Below.refl _ _).alloc (Nat.le_refl _) _
        have hkn:Blk wn p 166 #[.pointer (some ⟨q,5,none⟩),.int .i64 0,.int .i64 1073741824]:=by rw [hwn,hp];exact Blk.alloc_new wr _ _
        have HBN:=Lib.hid (HB.out.trans (hbn.mono HB.out.size))
        have g0:=(HBN.out.cell (p:=⟨q,5,none⟩) hqz).trans (HK1.out.cell 5)
        have n0:=hkn.cell 0
        have n1:=hkn.cell 1
        have n2:=hkn.cell 2
        simp at g0 n0 n1 n2
        clear hp hwn hbn hkn
        go_quiet (fail)
        go_wp2_with fail
        go_roundw
        case rel => exact ⟨3+1,by go_num,by omega,HNK.out,HBN.out.trans ((belowD _ _).mono HBN.out.size)⟩
        case measure => simp [intOf]
  · have hix:=fun W => num_at4 q W
    by_cases hlo:du<0
    · have HV:=Lib.hid (show r=2 by rw [HR.out,if_neg];intro hm;have h5:=hm.dur;simp only at h5;omega)
      go_wp2_with fail
      obtain ⟨p,hp⟩:∃ p,p=wr.heap.size:=⟨_,rfl⟩
      obtain ⟨wn,hwn⟩:∃ wn,wn=wr.alloc (.cells #[.pointer (some ⟨q,6,none⟩),.int .i64 0,.int .i64 1073741824] 166 (0,0)):=⟨_,rfl⟩
      rw [← hwn,← hp]
      have hbn:Below wr.heap.size wr wn:=by rw [hwn];exact (Below.refl _ _).alloc (Nat.le_refl _) _
      have hkn:Blk wn p 166 #[.pointer (some ⟨q,6,none⟩),.int .i64 0,.int .i64 1073741824]:=by rw [hwn,hp];exact Blk.alloc_new wr _ _
      have HBN:=Lib.hid (HB.out.trans (hbn.mono HB.out.size))
      have g0:=(HBN.out.cell (p:=⟨q,6,none⟩) hqz).trans (HK1.out.cell 6)
      have n0:=hkn.cell 0
      have n1:=hkn.cell 1
      have n2:=hkn.cell 2
      simp at g0 n0 n1 n2
      clear hp hwn hbn hkn
      go_quiet (fail)
      go_wp2_with fail
      go_ret
      rw [HV.out]
      exact ⟨rfl,HFIN.out _ (HBN.out.trans ((belowD _ _).mono HBN.out.size))⟩
    · by_cases hhi:1073741824<du
      · have HV:=Lib.hid (show r=2 by rw [HR.out,if_neg];intro hm;have h5:=hm.dur;simp only at h5;omega)
        go_wp2_with fail
        obtain ⟨p,hp⟩:∃ p,p=wr.heap.size:=⟨_,rfl⟩
        obtain ⟨wn,hwn⟩:∃ wn,wn=wr.alloc (.cells #[.pointer (some ⟨q,6,none⟩),.int .i64 0,.int .i64 1073741824] 166 (0,0)):=⟨_,rfl⟩
        rw [← hwn,← hp]
        have hbn:Below wr.heap.size wr wn:=by rw [hwn];exact (Below.refl _ _).alloc (Nat.le_refl _) _
        have hkn:Blk wn p 166 #[.pointer (some ⟨q,6,none⟩),.int .i64 0,.int .i64 1073741824]:=by rw [hwn,hp];exact Blk.alloc_new wr _ _
        have HBN:=Lib.hid (HB.out.trans (hbn.mono HB.out.size))
        have g0:=(HBN.out.cell (p:=⟨q,6,none⟩) hqz).trans (HK1.out.cell 6)
        have n0:=hkn.cell 0
        have n1:=hkn.cell 1
        have n2:=hkn.cell 2
        simp at g0 n0 n1 n2
        clear hp hwn hbn hkn
        go_quiet (fail)
        go_wp2_with fail
        go_ret
        rw [HV.out]
        exact ⟨rfl,HFIN.out _ (HBN.out.trans ((belowD _ _).mono HBN.out.size))⟩
      · have HNK:=Lib.hid (show NumsOk ⟨tr,id,pa,se,ho,sa,du,no⟩ (4+1) from by
         obtain ⟨a0,a1,a2,a3,a4⟩:=HNO.out
         refine ⟨fun _ => ?_,fun _ => ?_,fun _ => ?_,fun _ => ?_,fun _ => ?_⟩
         all_goals first | exact a0 (by omega) | exact a1 (by omega) | exact a2 (by omega) | exact a3 (by omega) | exact a4 (by omega) | omega | (simp only;omega))
        go_wp2_with fail
        obtain ⟨p,hp⟩:∃ p,p=wr.heap.size:=⟨_,rfl⟩
        obtain ⟨wn,hwn⟩:∃ wn,wn=wr.alloc (.cells #[.pointer (some ⟨q,6,none⟩),.int .i64 0,.int .i64 1073741824] 166 (0,0)):=⟨_,rfl⟩
        rw [← hwn,← hp]
        have hbn:Below wr.heap.size wr wn:=by rw [hwn];exact (Below.refl _ _).alloc (Nat.le_refl _) _
        have hkn:Blk wn p 166 #[.pointer (some ⟨q,6,none⟩),.int .i64 0,.int .i64 1073741824]:=by rw [hwn,hp];exact Blk.alloc_new wr _ _
        have HBN:=Lib.hid (HB.out.trans (hbn.mono HB.out.size))
        have g0:=(HBN.out.cell (p:=⟨q,6,none⟩) hqz).trans (HK1.out.cell 6)
        have n0:=hkn.cell 0
        have n1:=hkn.cell 1
        have n2:=hkn.cell 2
        simp at g0 n0 n1 n2
        clear hp hwn hbn hkn
        go_quiet (fail)
        go_wp2_with fail
        go_roundw
        case rel => exact ⟨4+1,by go_num,by omega,HNK.out,HBN.out.trans ((belowD _ _).mono HBN.out.size)⟩
        case measure => simp [intOf]
  · have HMAY:=Lib.hid (show Sp.May ⟨tr,id,pa,se,ho,sa,du,no⟩↔Sp.NameOk se∧Sp.NameOk ho∧no.size≤24 from by
     obtain ⟨a0,a1,a2,a3,a4⟩:=HNO.out
     rw [Sp.may_iff]
     exact ⟨fun h => h.2.2.2.2.2,fun h => ⟨a0 (by omega),a1 (by omega),a2 (by omega),a3 (by omega),a4 (by omega),h⟩⟩)
    obtain ⟨ns,hns⟩:∃ ns,ns=decide (Sp.NameOk se):=⟨_,rfl⟩
    obtain ⟨nh,hnh⟩:∃ nh,nh=decide (Sp.NameOk ho):=⟨_,rfl⟩
    rw [← hns] at HN1
    rw [← hnh] at HN2
    have HNS2:=Lib.hid hns
    have HNH2:=Lib.hid hnh
    clear hns hnh
    have HCS:=Lib.hid (fun (W:World) (hW:Below w1.heap.size w1 W) => show W.cell? ⟨q,3,none⟩=some (.string se)∧W.cell? ⟨q,4,none⟩=some (.string ho)∧W.cell? ⟨q,7,none⟩=some (.string no) from by
     have k:=HK1.out.below hW
     exact ⟨k.cell 3,k.cell 4,k.cell 7⟩)
    obtain ⟨g3,_,_⟩:=HCS.out wr HB.out
    cases ns with
    | false =>
     have HV:=Lib.hid (show r=2 by rw [HR.out,if_neg];intro hm;have h5:=(HMAY.out.1 hm).1;exact absurd HNS2.out (by rw [decide_eq_true h5];decide))
     go_wp2_with fail
     refine (HN1.out wr).mono ?_
     rintro e w3 ⟨rfl,hb3⟩
     have HB3:=Lib.hid (HB.out.trans (hb3.mono HB.out.size))
     clear hb3 g3
     go_wp2_with fail
     go_ret
     rw [HV.out]
     exact ⟨rfl,HFIN.out _ HB3.out⟩
    | true =>
     go_wp2_with fail
     refine (HN1.out wr).mono ?_
     rintro e w3 ⟨rfl,hb3⟩
     have HB3:=Lib.hid (HB.out.trans (hb3.mono HB.out.size))
     clear hb3 g3
     obtain ⟨_,g4,_⟩:=HCS.out w3 HB3.out
     cases nh with
     | false =>
      have HV:=Lib.hid (show r=2 by rw [HR.out,if_neg];intro hm;have h5:=(HMAY.out.1 hm).2.1;exact absurd HNH2.out (by rw [decide_eq_true h5];decide))
      go_wp2_with fail
      refine (HN2.out w3).mono ?_
      rintro e w4 ⟨rfl,hb4⟩
      have HB4:=Lib.hid (HB3.out.trans (hb4.mono HB3.out.size))
      clear hb4 g4
      go_wp2_with fail
      go_ret
      rw [HV.out]
      exact ⟨rfl,HFIN.out _ HB4.out⟩
     | true =>
      go_wp2_with fail
      refine (HN2.out w3).mono ?_
      rintro e w4 ⟨rfl,hb4⟩
      have HB4:=Lib.hid (HB3.out.trans (hb4.mono HB3.out.size))
      clear hb4 g4
      obtain ⟨_,_,g7⟩:=HCS.out w4 HB4.out
      by_cases h24:no.size≤24
      · have t24:¬ (24:Int)<no.size:=by omega
        have HV:=Lib.hid (show r=0 by rw [HR.out,if_pos];exact HMAY.out.2 ⟨of_decide_eq_true HNS2.out.symm,of_decide_eq_true HNH2.out.symm,h24⟩)
        go_wp2_with fail
        go_ret
        rw [HV.out]
        exact ⟨rfl,HFIN.out _ HB4.out⟩
      · have t24:(24:Int)<no.size:=by omega
        have HV:=Lib.hid (show r=2 by rw [HR.out,if_neg];intro hm;exact h24 (HMAY.out.1 hm).2.2)
        go_wp2_with fail
        go_ret
        rw [HV.out]
        exact ⟨rfl,HFIN.out _ HB4.out⟩
end
end Go.Proofs.YtdacanghbepjpaaGreatDoor
namespace Go.Proofs.YtdacanghbepjpaaGreatDoor
set_option linter.unusedSimpArgs false
set_option linter.unusedVariables false
set_option maxRecDepth 100000
open Go.RowKit
def spNm (x:Sp.Span) (k:Nat):List UInt8:=([Ed.pn x.trace,Ed.pn x.id,Ed.pn x.parent,Ed.pn x.start,Ed.pn x.dur].take k).flatten
def spTx (x:Sp.Span) (k:Nat):List UInt8:=spNm x 5++([Ed.encT x.service.data.toList,Ed.encT x.host.data.toList,Ed.encT x.note.data.toList].take k).flatten
theorem spTx_enc (x:Sp.Span):spTx x 3=Sp.enc x:=by simp [spTx,spNm,Sp.enc]
theorem spNm_len {x:Sp.Span} (h:Sp.May x) (k:Nat) (hk:k≤5):(spNm x k).length≤112:=by
 have:=(Sp.enc_len h).2
 rw [← spTx_enc] at this
 rcases (show k=0∨k=1∨k=2∨k=3∨k=4∨k=5 by omega) with rfl | rfl | rfl | rfl | rfl | rfl <;> (simp [spTx,spNm] at this ⊢;try omega)
theorem spTx_len {x:Sp.Span} (h:Sp.May x) (k:Nat) (hk:k≤3):(spTx x k).length≤112:=by
 have:=(Sp.enc_len h).2
 rw [← spTx_enc] at this
 rcases (show k=0∨k=1∨k=2∨k=3 by omega) with rfl | rfl | rfl | rfl <;> (simp [spTx,spNm] at this ⊢;try omega)
theorem txt_at0 (b:Nat) (W:World):(Instr.index 176 (.agg #[.pointer (some ⟨b,3,none⟩),.pointer (some ⟨b,4,none⟩),.pointer (some ⟨b,7,none⟩)]) (.int .i64 0)).run Tryz.prog W=.ok (.pointer (some ⟨b,3,none⟩)) W:=by rfl
theorem txt_at1 (b:Nat) (W:World):(Instr.index 176 (.agg #[.pointer (some ⟨b,3,none⟩),.pointer (some ⟨b,4,none⟩),.pointer (some ⟨b,7,none⟩)]) (.int .i64 1)).run Tryz.prog W=.ok (.pointer (some ⟨b,4,none⟩)) W:=by rfl
theorem txt_at2 (b:Nat) (W:World):(Instr.index 176 (.agg #[.pointer (some ⟨b,3,none⟩),.pointer (some ⟨b,4,none⟩),.pointer (some ⟨b,7,none⟩)]) (.int .i64 2)).run Tryz.prog W=.ok (.pointer (some ⟨b,7,none⟩)) W:=by rfl
theorem _root_.Go.RowKit.Below.size' {B:Nat} {w w':World} (h:Below B w w') (hB:B≤w.heap.size):B≤w'.heap.size:=Nat.le_trans hB h.size
section
variable {w0 w w':World}
def spQ (x:Sp.Span):List UInt8×Int:=if Sp.May x then (Sp.enc x,0) else ([],2)
set_option maxHeartbeats 8000000 in
theorem hencode_any (x:Sp.Span) (h1:x.service.size≤maxLen) (h2:x.host.size≤maxLen) (h3:x.note.size≤maxLen) :
  Calls Tryz.prog 75 #[spV x] w fun e w' => e=.returned (.tuple #[.string ⟨(spQ x).1.toArray⟩,.int .i64 (spQ x).2])∧Below w.heap.size w w':=by
 obtain ⟨q,hq⟩:∃ q,q=w.heap.size:=⟨_,rfl⟩
 obtain ⟨w1,hw1⟩:∃ w1,w1=w.alloc (.cells #[.int .i64 x.trace,.int .i64 x.id,.int .i64 x.parent,.string x.service,.string x.host,.int .i64 x.start,.int .i64 x.dur,.string x.note] 47 (0,0)):=⟨_,rfl⟩
 have hb1:Below w.heap.size w w1:=by rw [hw1];exact (Below.refl _ _).alloc (Nat.le_refl _) _
 have hk1:Blk w1 q 47 #[.int .i64 x.trace,.int .i64 x.id,.int .i64 x.parent,.string x.service,.string x.host,.int .i64 x.start,.int .i64 x.dur,.string x.note]:=by rw [hw1,hq];exact Blk.alloc_new w _ _
 have HCK:=Lib.hid (hcheck_any (w:=w1) x h1 h2 h3)
 have HK1:=Lib.hid hk1
 have HW1:=Lib.hid hw1
 have HF:=Lib.hid hb1
 have hqz:=hk1.lt
 by_cases hm:Sp.May x
 case neg =>
  have e1:spQ x=([],2):=by unfold spQ;exact if_neg hm
  rw [if_neg hm] at HCK
  rw [e1]
  unfold spV at HCK ⊢
  have c0:=hk1.cell 0
  have c1:=hk1.cell 1
  have c2:=hk1.cell 2
  have c3:=hk1.cell 3
  have c4:=hk1.cell 4
  have c5:=hk1.cell 5
  have c6:=hk1.cell 6
  have c7:=hk1.cell 7
  simp at c0 c1 c2 c3 c4 c5 c6 c7
  obtain ⟨tr,id,pa,se,ho,sa,du,no⟩:=x
  simp only at HCK HK1 HW1 c0 c1 c2 c3 c4 c5 c6 c7 ⊢
  clear hb1 hk1 hw1 h1 h2 h3 hm e1
  go_enter Tryz.func75,Tryz.ntmps75
  go_wp2_with fail
  rw [← HW1.out]
  refine HCK.out.mono ?_
  rintro e w2 ⟨rfl,hb2⟩
  have HB2:=Lib.hid (HF.out.trans (hb2.mono HF.out.size))
  clear hb2 c0 c1 c2 c3 c4 c5 c6 c7
  go_wp2_with fail
  go_ret2
  exact ⟨rfl,HB2.out⟩
 case pos =>
  have e1:spQ x=(Sp.enc x,0):=by unfold spQ;exact if_pos hm
  rw [if_pos hm] at HCK
  rw [e1]
  have HENC:=Lib.hid (spTx_enc x)
  have hmx:=hm
  unfold spV at HCK ⊢
  obtain ⟨tr,id,pa,se,ho,sa,du,no⟩:=x
  simp only at HCK HK1 HW1 ⊢
  have HMX:=Lib.hid hmx
  have b1:=hm.trace
  have b2:=hm.id
  have b3:=hm.parent
  have b4:=hm.start
  have b5:=hm.dur
  have b6:=hm.service.2.1
  have b7:=hm.host.2.1
  have b8:=hm.note
  simp only at b1 b2 b3 b4 b5 b6 b7 b8
  have HBD:=Lib.hid (And.intro b1 (And.intro b2 (And.intro b3 (And.intro b4 (And.intro b5 (And.intro b6 (And.intro b7 b8)))))))
  clear hb1 hk1 hw1 h1 h2 h3 hm e1 hmx b1 b2 b3 b4 b5 b6 b7 b8
  go_enter Tryz.func75,Tryz.ntmps75
  go_wp2_with fail
  rw [← HW1.out]
  refine HCK.out.mono ?_
  rintro e w2 ⟨rfl,hb2⟩
  have HF2:=Lib.hid (HF.out.trans (hb2.mono HF.out.size))
  have HK2:=Lib.hid (HK1.out.below hb2)
  clear hb2
  go_wp2_with fail
  obtain ⟨bb,hbb⟩:∃ bb,bb=w2.heap.size:=⟨_,rfl⟩
  obtain ⟨w3,hw3⟩:∃ w3,w3=w2.alloc (.cells #[.pointer none,.slice none 0 0] 164 (0,0)):=⟨_,rfl⟩
  rw [← hw3,← hq,← hbb]
  have hb3:Below w2.heap.size w2 w3:=by rw [hw3];exact (Below.refl _ _).alloc (Nat.le_refl _) _
  have HI3:=Lib.hid (show IsB bb bb [] w3 by rw [hw3,hbb];exact IsB.new w2)
  have HKq:=Lib.hid (HK2.out.below hb3)
  have hqb:q<bb:=by rw [hbb];exact HK2.out.lt
  have HZ:=Lib.hid (show bb≤w3.heap.size by rw [hbb];exact hb3.size)
  have HFIN:=Lib.hid (fun (W:World) (hW:Below bb w3 W) => show Below w.heap.size w W from (HF2.out.trans (hb3.mono HF2.out.size)).trans (hW.mono (by omega)))
  have HNS:=Lib.hid (hnums_any (w:=w3) q)
  unfold numsV at HNS
  clear hw3 hbb hb3 hqz hq
  refine HNS.out.mono ?_
  rintro e w4 ⟨rfl,hb4⟩
  have HB4:=Lib.hid (show Below bb w3 w4 from hb4.mono HZ.out)
  have HI4:=Lib.hid (HI3.out.below hb4)
  clear hb4
  go_wp2_with fail
  have hmx:=HMX.out
  go_loopw [7,16] (fun _ v16 wr => ∃ k:Nat,v16=.int .i64 k∧k≤5∧Below bb w3 wr∧IsB bb bb (Lib.byteCells (spNm ⟨tr,id,pa,se,ho,sa,du,no⟩ k)) wr) (fun _ v16 _ => 5-(intOf v16).toNat)
  case atStart => exact ⟨0,rfl,by omega,HB4.out,HI4.out⟩
  case round =>
   obtain ⟨k,rfl,hk,hb,hi⟩:=hrel
   have HB:=Lib.hid hb
   have HI:=Lib.hid hi
   clear hb hi
   rcases (show k=0∨k=1∨k=2∨k=3∨k=4∨k=5 by omega) with rfl | rfl | rfl | rfl | rfl | rfl
   · have hix:=fun W => num_at0 q W
     have g0:=((HB.out.trans (((Below.refl _ _).alloc (Nat.le_refl _) (.cells #[.pointer (some ⟨q,0,none⟩),.int .i64 1,.int .i64 2147483647] 166 (0,0))).mono (HB.out.size' HZ.out))).cell (p:=⟨q,0,none⟩) hqb).trans (HKq.out.cell 0)
     simp only [List.getElem?_toArray,List.getElem?_cons_zero,List.getElem?_cons_succ] at g0
     have HPP:=Lib.hid (fun W => putP_any tr W (by have:=HBD.out;omega) (by have:=HBD.out;omega))
     obtain ⟨E,hE⟩:∃ E,E=pnB tr:=⟨_,rfl⟩
     rw [← hE] at HPP
     have HEE:=Lib.hid hE
     have hEz:E.size≤9:=by rw [hE];exact pnB_size (by have:=HBD.out;omega)
     clear hE
     go_wp2_with fail
     obtain ⟨wn,hwn⟩:∃ wn,wn=wr.alloc (.cells #[.pointer (some ⟨q,0,none⟩),.int .i64 1,.int .i64 2147483647] 166 (0,0)):=⟨_,rfl⟩
     rw [← hwn]
     have hbn:Below wr.heap.size wr wn:=by rw [hwn];exact (Below.refl _ _).alloc (Nat.le_refl _) _
     have HBN:=Lib.hid (HB.out.trans (hbn.mono (HB.out.size' HZ.out)))
     have HIN:=Lib.hid (HI.out.below hbn)
     clear hwn hbn g0
     refine (HPP.out wn).mono ?_
     rintro e w5 ⟨rfl,hb5⟩
     have HB5:=Lib.hid (HBN.out.trans (hb5.mono (HBN.out.size' HZ.out)))
     have HI5:=Lib.hid (HIN.out.below hb5)
     clear hb5
     go_wp2_with fail
     refine (writeString_any bb bb _ E w5 HI5.out (by rw [Lib.byteCells_length];have:=spNm_len hmx 0 (by omega);omega) (HB5.out.size' HZ.out)).mono ?_
     rintro e w6 ⟨rfl,⟨hbu,hb6⟩,_⟩
     have hi6:IsB bb bb (Lib.byteCells (spNm ⟨tr,id,pa,se,ho,sa,du,no⟩ (0+1))) w6:=by
      right
      have e1:Lib.byteCells (spNm ⟨tr,id,pa,se,ho,sa,du,no⟩ (0+1))=Lib.byteCells (spNm ⟨tr,id,pa,se,ho,sa,du,no⟩ 0)++Lib.strCells E:=by
       rw [HEE.out]
       unfold Lib.byteCells Lib.strCells
       simp [spNm,pnB]
      rw [e1]
      exact hbu
     have HI6:=Lib.hid hi6
     have HB6:=Lib.hid (HB5.out.trans hb6)
     clear hbu hi6 hb6
     go_wp2_with fail
     go_roundw
     case rel => exact ⟨0+1,by go_num,by omega,HB6.out,HI6.out⟩
     case measure => simp [intOf]
   · have hix:=fun W => num_at1 q W
     have g0:=((HB.out.trans (((Below.refl _ _).alloc (Nat.le_refl _) (.cells #[.pointer (some ⟨q,1,none⟩),.int .i64 1,.int .i64 2147483647] 166 (0,0))).mono (HB.out.size' HZ.out))).cell (p:=⟨q,1,none⟩) hqb).trans (HKq.out.cell 1)
     simp only [List.getElem?_toArray,List.getElem?_cons_zero,List.getElem?_cons_succ] at g0
     have HPP:=Lib.hid (fun W => putP_any id W (by have:=HBD.out;omega) (by have:=HBD.out;omega))
     obtain ⟨E,hE⟩:∃ E,E=pnB id:=⟨_,rfl⟩
     rw [← hE] at HPP
     have HEE:=Lib.hid hE
     have hEz:E.size≤9:=by rw [hE];exact pnB_size (by have:=HBD.out;omega)
     clear hE
     go_wp2_with fail
     obtain ⟨wn,hwn⟩:∃ wn,wn=wr.alloc (.cells #[.pointer (some ⟨q,1,none⟩),.int .i64 1,.int .i64 2147483647] 166 (0,0)):=⟨_,rfl⟩
     rw [← hwn]
     have hbn:Below wr.heap.size wr wn:=by rw [hwn];exact (Below.refl _ _).alloc (Nat.le_refl _) _
     have HBN:=Lib.hid (HB.out.trans (hbn.mono (HB.out.size' HZ.out)))
     have HIN:=Lib.hid (HI.out.below hbn)
     clear hwn hbn g0
     refine (HPP.out wn).mono ?_
     rintro e w5 ⟨rfl,hb5⟩
     have HB5:=Lib.hid (HBN.out.trans (hb5.mono (HBN.out.size' HZ.out)))
     have HI5:=Lib.hid (HIN.out.below hb5)
     clear hb5
     go_wp2_with fail
     refine (writeString_any bb bb _ E w5 HI5.out (by rw [Lib.byteCells_length];have:=spNm_len hmx 1 (by omega);omega) (HB5.out.size' HZ.out)).mono ?_
     rintro e w6 ⟨rfl,⟨hbu,hb6⟩,_⟩
     have hi6:IsB bb bb (Lib.byteCells (spNm ⟨tr,id,pa,se,ho,sa,du,no⟩ (1+1))) w6:=by
      right
      have e1:Lib.byteCells (spNm ⟨tr,id,pa,se,ho,sa,du,no⟩ (1+1))=Lib.byteCells (spNm ⟨tr,id,pa,se,ho,sa,du,no⟩ 1)++Lib.strCells E:=by
       rw [HEE.out]
       unfold Lib.byteCells Lib.strCells
       simp [spNm,pnB]
      rw [e1]
      exact hbu
     have HI6:=Lib.hid hi6
     have HB6:=Lib.hid (HB5.out.trans hb6)
     clear hbu hi6 hb6
     go_wp2_with fail
     go_roundw
     case rel => exact ⟨1+1,by go_num,by omega,HB6.out,HI6.out⟩
     case measure => simp [intOf]
   · have hix:=fun W => num_at2 q W
     have g0:=((HB.out.trans (((Below.refl _ _).alloc (Nat.le_refl _) (.cells #[.pointer (some ⟨q,2,none⟩),.int .i64 0,.int .i64 2147483647] 166 (0,0))).mono (HB.out.size' HZ.out))).cell (p:=⟨q,2,none⟩) hqb).trans (HKq.out.cell 2)
     simp only [List.getElem?_toArray,List.getElem?_cons_zero,List.getElem?_cons_succ] at g0
     have HPP:=Lib.hid (fun W => putP_any pa W (by have:=HBD.out;omega) (by have:=HBD.out;omega))
     obtain ⟨E,hE⟩:∃ E,E=pnB pa:=⟨_,rfl⟩
     rw [← hE] at HPP
     have HEE:=Lib.hid hE
     have hEz:E.size≤9:=by rw [hE];exact pnB_size (by have:=HBD.out;omega)
     clear hE
     go_wp2_with fail
     obtain ⟨wn,hwn⟩:∃ wn,wn=wr.alloc (.cells #[.pointer (some ⟨q,2,none⟩),.int .i64 0,.int .i64 2147483647] 166 (0,0)):=⟨_,rfl⟩
     rw [← hwn]
     have hbn:Below wr.heap.size wr wn:=by rw [hwn];exact (Below.refl _ _).alloc (Nat.le_refl _) _
     have HBN:=Lib.hid (HB.out.trans (hbn.mono (HB.out.size' HZ.out)))
     have HIN:=Lib.hid (HI.out.below hbn)
     clear hwn hbn g0
     refine (HPP.out wn).mono ?_
     rintro e w5 ⟨rfl,hb5⟩
     have HB5:=Lib.hid (HBN.out.trans (hb5.mono (HBN.out.size' HZ.out)))
     have HI5:=Lib.hid (HIN.out.below hb5)
     clear hb5
     go_wp2_with fail
     refine (writeString_any bb bb _ E w5 HI5.out (by rw [Lib.byteCells_length];have:=spNm_len hmx 2 (by omega);omega) (HB5.out.size' HZ.out)).mono ?_
     rintro e w6 ⟨rfl,⟨hbu,hb6⟩,_⟩
     have hi6:IsB bb bb (Lib.byteCells (spNm ⟨tr,id,pa,se,ho,sa,du,no⟩ (2+1))) w6:=by
      right
      have e1:Lib.byteCells (spNm ⟨tr,id,pa,se,ho,sa,du,no⟩ (2+1))=Lib.byteCells (spNm ⟨tr,id,pa,se,ho,sa,du,no⟩ 2)++Lib.strCells E:=by
       rw [HEE.out]
       unfold Lib.byteCells Lib.strCells
       simp [spNm,pnB]
      rw [e1]
      exact hbu
     have HI6:=Lib.hid hi6
     have HB6:=Lib.hid (HB5.out.trans hb6)
     clear hbu hi6 hb6
     go_wp2_with fail
     go_roundw
     case rel => exact ⟨2+1,by go_num,by omega,HB6.out,HI6.out⟩
     case measure => simp [intOf]
   · have hix:=fun W => num_at3 q W
     have g0:=((HB.out.trans (((Below.refl _ _).alloc (Nat.le_refl _) (.cells #[.pointer (some ⟨q,5,none⟩),.int .i64 0,.int .i64 1073741824] 166 (0,0))).mono (HB.out.size' HZ.out))).cell (p:=⟨q,5,none⟩) hqb).trans (HKq.out.cell 5)
     simp only [List.getElem?_toArray,List.getElem?_cons_zero,List.getElem?_cons_succ] at g0
     have HPP:=Lib.hid (fun W => putP_any sa W (by have:=HBD.out;omega) (by have:=HBD.out;omega))
     obtain ⟨E,hE⟩:∃ E,E=pnB sa:=⟨_,rfl⟩
     rw [← hE] at HPP
     have HEE:=Lib.hid hE
     have hEz:E.size≤9:=by rw [hE];exact pnB_size (by have:=HBD.out;omega)
     clear hE
     go_wp2_with fail
     obtain ⟨wn,hwn⟩:∃ wn,wn=wr.alloc (.cells #[.pointer (some ⟨q,5,none⟩),.int .i64 0,.int .i64 1073741824] 166 (0,0)):=⟨_,rfl⟩
     rw [← hwn]
     have hbn:Below wr.heap.size wr wn:=by rw [hwn];exact (Below.refl _ _).alloc (Nat.le_refl _) _
     have HBN:=Lib.hid (HB.out.trans (hbn.mono (HB.out.size' HZ.out)))
     have HIN:=Lib.hid (HI.out.below hbn)
     clear hwn hbn g0
     refine (HPP.out wn).mono ?_
     rintro e w5 ⟨rfl,hb5⟩
     have HB5:=Lib.hid (HBN.out.trans (hb5.mono (HBN.out.size' HZ.out)))
     have HI5:=Lib.hid (HIN.out.below hb5)
     clear hb5
     go_wp2_with fail
     refine (writeString_any bb bb _ E w5 HI5.out (by rw [Lib.byteCells_length];have:=spNm_len hmx 3 (by omega);omega) (HB5.out.size' HZ.out)).mono ?_
     rintro e w6 ⟨rfl,⟨hbu,hb6⟩,_⟩
     have hi6:IsB bb bb (Lib.byteCells (spNm ⟨tr,id,pa,se,ho,sa,du,no⟩ (3+1))) w6:=by
      right
      have e1:Lib.byteCells (spNm ⟨tr,id,pa,se,ho,sa,du,no⟩ (3+1))=Lib.byteCells (spNm ⟨tr,id,pa,se,ho,sa,du,no⟩ 3)++Lib.strCells E:=by
       rw [HEE.out]
       unfold Lib.byteCells Lib.strCells
       simp [spNm,pnB]
      rw [e1]
      exact hbu
     have HI6:=Lib.hid hi6
     have HB6:=Lib.hid (HB5.out.trans hb6)
     clear hbu hi6 hb6
     go_wp2_with fail
     go_roundw
     case rel => exact ⟨3+1,by go_num,by omega,HB6.out,HI6.out⟩
     case measure => simp [intOf]
   · have hix:=fun W => num_at4 q W
     have g0:=((HB.out.trans (((Below.refl _ _).alloc (Nat.le_refl _) (.cells #[.pointer (some ⟨q,6,none⟩),.int .i64 0,.int .i64 1073741824] 166 (0,0))).mono (HB.out.size' HZ.out))).cell (p:=⟨q,6,none⟩) hqb).trans (HKq.out.cell 6)
     simp only [List.getElem?_toArray,List.getElem?_cons_zero,List.getElem?_cons_succ] at g0
     have HPP:=Lib.hid (fun W => putP_any du W (by have:=HBD.out;omega) (by have:=HBD.out;omega))
     obtain ⟨E,hE⟩:∃ E,E=pnB du:=⟨_,rfl⟩
     rw [← hE] at HPP
     have HEE:=Lib.hid hE
     have hEz:E.size≤9:=by rw [hE];exact pnB_size (by have:=HBD.out;omega)
     clear hE
     go_wp2_with fail
     obtain ⟨wn,hwn⟩:∃ wn,wn=wr.alloc (.cells #[.pointer (some ⟨q,6,none⟩),.int .i64 0,.int .i64 1073741824] 166 (0,0)):=⟨_,rfl⟩
     rw [← hwn]
     have hbn:Below wr.heap.size wr wn:=by rw [hwn];exact (Below.refl _ _).alloc (Nat.le_refl _) _
     have HBN:=Lib.hid (HB.out.trans (hbn.mono (HB.out.size' HZ.out)))
     have HIN:=Lib.hid (HI.out.below hbn)
     clear hwn hbn g0
     refine (HPP.out wn).mono ?_
     rintro e w5 ⟨rfl,hb5⟩
     have HB5:=Lib.hid (HBN.out.trans (hb5.mono (HBN.out.size' HZ.out)))
     have HI5:=Lib.hid (HIN.out.below hb5)
     clear hb5
     go_wp2_with fail
     refine (writeString_any bb bb _ E w5 HI5.out (by rw [Lib.byteCells_length];have:=spNm_len hmx 4 (by omega);omega) (HB5.out.size' HZ.out)).mono ?_
     rintro e w6 ⟨rfl,⟨hbu,hb6⟩,_⟩
     have hi6:IsB bb bb (Lib.byteCells (spNm ⟨tr,id,pa,se,ho,sa,du,no⟩ (4+1))) w6:=by
      right
      have e1:Lib.byteCells (spNm ⟨tr,id,pa,se,ho,sa,du,no⟩ (4+1))=Lib.byteCells (spNm ⟨tr,id,pa,se,ho,sa,du,no⟩ 4)++Lib.strCells E:=by
       rw [HEE.out]
       unfold Lib.byteCells Lib.strCells
       simp [spNm,pnB]
      rw [e1]
      exact hbu
     have HI6:=Lib.hid hi6
     have HB6:=Lib.hid (HB5.out.trans hb6)
     clear hbu hi6 hb6
     go_wp2_with fail
     go_roundw
     case rel => exact ⟨4+1,by go_num,by omega,HB6.out,HI6.out⟩
     case measure => simp [intOf]
   · have HTX:=Lib.hid (fun W:World => htxts_any (w:=W) q)
     unfold txtsV at HTX
     go_wp2_with fail
     refine (HTX.out wr).mono ?_
     rintro e w5 ⟨rfl,hb5⟩
     have HB5:=Lib.hid (HB.out.trans (hb5.mono (HB.out.size' HZ.out)))
     have HI5:=Lib.hid (show IsB bb bb (Lib.byteCells (spTx ⟨tr,id,pa,se,ho,sa,du,no⟩ 0)) w5 from by
      have:=HI.out.below hb5
      have e1:spTx ⟨tr,id,pa,se,ho,sa,du,no⟩ 0=spNm ⟨tr,id,pa,se,ho,sa,du,no⟩ 5:=by simp [spTx]
      rw [e1]
      exact this)
     clear hb5
     go_wp2_with fail
     go_loopw [9,27] (fun _ v27 wr => ∃ k:Nat,v27=.int .i64 k∧k≤3∧Below bb w3 wr∧IsB bb bb (Lib.byteCells (spTx ⟨tr,id,pa,se,ho,sa,du,no⟩ k)) wr) (fun _ v27 _ => 3-(intOf v27).toNat)
     case atStart => exact ⟨0,rfl,by omega,HB5.out,HI5.out⟩
     case round =>
      obtain ⟨k,rfl,hk,hb,hi⟩:=hrel
      have HB:=Lib.hid hb
      have HI:=Lib.hid hi
      clear hb hi
      have hb6:=HBD.out.2.2.2.2.2
      rcases (show k=0∨k=1∨k=2∨k=3 by omega) with rfl | rfl | rfl | rfl
      · have hix:=fun W => txt_at0 q W
        have g0:=(HB.out.cell (p:=⟨q,3,none⟩) hqb).trans (HKq.out.cell 3)
        simp at g0
        have HPP:=Lib.hid (fun W => putText_any se W (by omega))
        obtain ⟨E,hE⟩:∃ E,E=encTB se:=⟨_,rfl⟩
        rw [← hE] at HPP
        have HEE:=Lib.hid hE
        have hEz:E.size≤1009:=by have:=encT_len se (by omega);rw [← hE] at this;omega
        clear hE
        go_wp2_with fail
        refine (HPP.out wr).mono ?_
        rintro e w5 ⟨rfl,hb5⟩
        have HB5:=Lib.hid (HB.out.trans (hb5.mono (HB.out.size' HZ.out)))
        have HI5:=Lib.hid (HI.out.below hb5)
        clear hb5 g0
        go_wp2_with fail
        refine (writeString_any bb bb _ E w5 HI5.out (by rw [Lib.byteCells_length];have:=spTx_len hmx 0 (by omega);omega) (HB5.out.size' HZ.out)).mono ?_
        rintro e w6 ⟨rfl,⟨hbu,hb6⟩,_⟩
        have hi6:IsB bb bb (Lib.byteCells (spTx ⟨tr,id,pa,se,ho,sa,du,no⟩ (0+1))) w6:=by
         right
         have e1:Lib.byteCells (spTx ⟨tr,id,pa,se,ho,sa,du,no⟩ (0+1))=Lib.byteCells (spTx ⟨tr,id,pa,se,ho,sa,du,no⟩ 0)++Lib.strCells E:=by
          rw [HEE.out]
          unfold Lib.byteCells Lib.strCells
          simp [spTx,encTB]
         rw [e1]
         exact hbu
        have HI6:=Lib.hid hi6
        have HB6:=Lib.hid (HB5.out.trans hb6)
        clear hbu hi6 hb6
        go_wp2_with fail
        go_roundw
        case rel => exact ⟨0+1,by go_num,by omega,HB6.out,HI6.out⟩
        case measure => simp [intOf]
      · have hix:=fun W => txt_at1 q W
        have g0:=(HB.out.cell (p:=⟨q,4,none⟩) hqb).trans (HKq.out.cell 4)
        simp at g0
        have HPP:=Lib.hid (fun W => putText_any ho W (by omega))
        obtain ⟨E,hE⟩:∃ E,E=encTB ho:=⟨_,rfl⟩
        rw [← hE] at HPP
        have HEE:=Lib.hid hE
        have hEz:E.size≤1009:=by have:=encT_len ho (by omega);rw [← hE] at this;omega
        clear hE
        go_wp2_with fail
        refine (HPP.out wr).mono ?_
        rintro e w5 ⟨rfl,hb5⟩
        have HB5:=Lib.hid (HB.out.trans (hb5.mono (HB.out.size' HZ.out)))
        have HI5:=Lib.hid (HI.out.below hb5)
        clear hb5 g0
        go_wp2_with fail
        refine (writeString_any bb bb _ E w5 HI5.out (by rw [Lib.byteCells_length];have:=spTx_len hmx 1 (by omega);omega) (HB5.out.size' HZ.out)).mono ?_
        rintro e w6 ⟨rfl,⟨hbu,hb6⟩,_⟩
        have hi6:IsB bb bb (Lib.byteCells (spTx ⟨tr,id,pa,se,ho,sa,du,no⟩ (1+1))) w6:=by
         right
         have e1:Lib.byteCells (spTx ⟨tr,id,pa,se,ho,sa,du,no⟩ (1+1))=Lib.byteCells (spTx ⟨tr,id,pa,se,ho,sa,du,no⟩ 1)++Lib.strCells E:=by
          rw [HEE.out]
          unfold Lib.byteCells Lib.strCells
          simp [spTx,encTB]
         rw [e1]
         exact hbu
        have HI6:=Lib.hid hi6
        have HB6:=Lib.hid (HB5.out.trans hb6)
        clear hbu hi6 hb6
        go_wp2_with fail
        go_roundw
        case rel => exact ⟨1+1,by go_num,by omega,HB6.out,HI6.out⟩
        case measure => simp [intOf]
      · have hix:=fun W => txt_at2 q W
        have g0:=(HB.out.cell (p:=⟨q,7,none⟩) hqb).trans (HKq.out.cell 7)
        simp at g0
        have HPP:=Lib.hid (fun W => putText_any no W (by omega))
        obtain ⟨E,hE⟩:∃ E,E=encTB no:=⟨_,rfl⟩
        rw [← hE] at HPP
        have HEE:=Lib.hid hE
        have hEz:E.size≤1009:=by have:=encT_len no (by omega);rw [← hE] at this;omega
        clear hE
        go_wp2_with fail
        refine (HPP.out wr).mono ?_
        rintro e w5 ⟨rfl,hb5⟩
        have HB5:=Lib.hid (HB.out.trans (hb5.mono (HB.out.size' HZ.out)))
        have HI5:=Lib.hid (HI.out.below hb5)
        clear hb5 g0
        go_wp2_with fail
        refine (writeString_any bb bb _ E w5 HI5.out (by rw [Lib.byteCells_length];have:=spTx_len hmx 2 (by omega);omega) (HB5.out.size' HZ.out)).mono ?_
        rintro e w6 ⟨rfl,⟨hbu,hb6⟩,_⟩
        have hi6:IsB bb bb (Lib.byteCells (spTx ⟨tr,id,pa,se,ho,sa,du,no⟩ (2+1))) w6:=by
         right
         have e1:Lib.byteCells (spTx ⟨tr,id,pa,se,ho,sa,du,no⟩ (2+1))=Lib.byteCells (spTx ⟨tr,id,pa,se,ho,sa,du,no⟩ 2)++Lib.strCells E:=by
          rw [HEE.out]
          unfold Lib.byteCells Lib.strCells
          simp [spTx,encTB]
         rw [e1]
         exact hbu
        have HI6:=Lib.hid hi6
        have HB6:=Lib.hid (HB5.out.trans hb6)
        clear hbu hi6 hb6
        go_wp2_with fail
        go_roundw
        case rel => exact ⟨2+1,by go_num,by omega,HB6.out,HI6.out⟩
        case measure => simp [intOf]
      · have HST:=Lib.hid (Tryz.Builder_String_any bb bb (spTx ⟨tr,id,pa,se,ho,sa,du,no⟩ 3) wr HI.out (HB.out.size' HZ.out))
        clear hb6
        go_wp2_with fail
        refine HST.out.mono ?_
        rintro e w6 ⟨rfl,hb6⟩
        have HB6:=Lib.hid (HB.out.trans hb6)
        clear hb6
        go_wp2_with fail
        go_ret2
        rw [HENC.out]
        exact ⟨rfl,HFIN.out _ HB6.out⟩
end
end Go.Proofs.YtdacanghbepjpaaGreatDoor
namespace Go.Proofs.YtdacanghbepjpaaGreatDoor
set_option linter.unusedSimpArgs false
set_option linter.unusedVariables false
set_option maxRecDepth 100000
open Go.RowKit Go.Maps
def spCs (x:Sp.Span):Nat→Array Value
 | 0 => #[.int .i64 0,.int .i64 0,.int .i64 0,.string ⟨#[]⟩,.string ⟨#[]⟩,.int .i64 0,.int .i64 0,.string ⟨#[]⟩]
 | 1 => #[.int .i64 x.trace,.int .i64 0,.int .i64 0,.string ⟨#[]⟩,.string ⟨#[]⟩,.int .i64 0,.int .i64 0,.string ⟨#[]⟩]
 | 2 => #[.int .i64 x.trace,.int .i64 x.id,.int .i64 0,.string ⟨#[]⟩,.string ⟨#[]⟩,.int .i64 0,.int .i64 0,.string ⟨#[]⟩]
 | 3 => #[.int .i64 x.trace,.int .i64 x.id,.int .i64 x.parent,.string ⟨#[]⟩,.string ⟨#[]⟩,.int .i64 0,.int .i64 0,.string ⟨#[]⟩]
 | 4 => #[.int .i64 x.trace,.int .i64 x.id,.int .i64 x.parent,.string ⟨#[]⟩,.string ⟨#[]⟩,.int .i64 x.start,.int .i64 0,.string ⟨#[]⟩]
 | _ => #[.int .i64 x.trace,.int .i64 x.id,.int .i64 x.parent,.string ⟨#[]⟩,.string ⟨#[]⟩,.int .i64 x.start,.int .i64 x.dur,.string ⟨#[]⟩]
def spCt (x:Sp.Span):Nat→Array Value
 | 0 => #[.int .i64 x.trace,.int .i64 x.id,.int .i64 x.parent,.string ⟨#[]⟩,.string ⟨#[]⟩,.int .i64 x.start,.int .i64 x.dur,.string ⟨#[]⟩]
 | 1 => #[.int .i64 x.trace,.int .i64 x.id,.int .i64 x.parent,.string x.service,.string ⟨#[]⟩,.int .i64 x.start,.int .i64 x.dur,.string ⟨#[]⟩]
 | 2 => #[.int .i64 x.trace,.int .i64 x.id,.int .i64 x.parent,.string x.service,.string x.host,.int .i64 x.start,.int .i64 x.dur,.string ⟨#[]⟩]
 | _ => #[.int .i64 x.trace,.int .i64 x.id,.int .i64 x.parent,.string x.service,.string x.host,.int .i64 x.start,.int .i64 x.dur,.string x.note]
theorem spNm_get0 {x:Sp.Span} (h:Sp.May x):Var.get (Sp.enc x) (spNm x 0).length=some (x.trace.toNat,(spNm x 1).length):=by
 have e:Sp.enc x=spNm x 0++(Ed.pn x.trace++(Ed.pn x.id++(Ed.pn x.parent++(Ed.pn x.start++(Ed.pn x.dur++(Ed.encT x.service.data.toList++(Ed.encT x.host.data.toList++Ed.encT x.note.data.toList))))))):=by simp [spNm,Sp.enc]
 rw [e,Ed.get_pn (by have:=h.trace;omega) (by have:=h.trace;omega)]
 simp [spNm]
theorem spNm_get1 {x:Sp.Span} (h:Sp.May x):Var.get (Sp.enc x) (spNm x 1).length=some (x.id.toNat,(spNm x 2).length):=by
 have e:Sp.enc x=spNm x 1++(Ed.pn x.id++(Ed.pn x.parent++(Ed.pn x.start++(Ed.pn x.dur++(Ed.encT x.service.data.toList++(Ed.encT x.host.data.toList++Ed.encT x.note.data.toList)))))):=by simp [spNm,Sp.enc]
 rw [e,Ed.get_pn (by have:=h.id;omega) (by have:=h.id;omega)]
 simp [spNm]
theorem spNm_get2 {x:Sp.Span} (h:Sp.May x):Var.get (Sp.enc x) (spNm x 2).length=some (x.parent.toNat,(spNm x 3).length):=by
 have e:Sp.enc x=spNm x 2++(Ed.pn x.parent++(Ed.pn x.start++(Ed.pn x.dur++(Ed.encT x.service.data.toList++(Ed.encT x.host.data.toList++Ed.encT x.note.data.toList))))):=by simp [spNm,Sp.enc]
 rw [e,Ed.get_pn (by have:=h.parent;omega) (by have:=h.parent;omega)]
 simp [spNm]
theorem spNm_get3 {x:Sp.Span} (h:Sp.May x):Var.get (Sp.enc x) (spNm x 3).length=some (x.start.toNat,(spNm x 4).length):=by
 have e:Sp.enc x=spNm x 3++(Ed.pn x.start++(Ed.pn x.dur++(Ed.encT x.service.data.toList++(Ed.encT x.host.data.toList++Ed.encT x.note.data.toList)))):=by simp [spNm,Sp.enc]
 rw [e,Ed.get_pn (by have:=h.start;omega) (by have:=h.start;omega)]
 simp [spNm]
theorem spNm_get4 {x:Sp.Span} (h:Sp.May x):Var.get (Sp.enc x) (spNm x 4).length=some (x.dur.toNat,(spNm x 5).length):=by
 have e:Sp.enc x=spNm x 4++(Ed.pn x.dur++(Ed.encT x.service.data.toList++(Ed.encT x.host.data.toList++Ed.encT x.note.data.toList))):=by simp [spNm,Sp.enc]
 rw [e,Ed.get_pn (by have:=h.dur;omega) (by have:=h.dur;omega)]
 simp [spNm]
theorem spTx_get0 {x:Sp.Span} (h:Sp.May x):Ed.txt (Sp.enc x) (spTx x 0).length=some (x.service.data.toList,(spTx x 1).length):=by
 have e:Sp.enc x=spTx x 0++(Ed.encT x.service.data.toList++(Ed.encT x.host.data.toList++Ed.encT x.note.data.toList)):=by simp [spTx,spNm,Sp.enc]
 rw [e,Ed.txt_enc _ _ _ h.service.len]
 simp [spTx]
theorem spTx_get1 {x:Sp.Span} (h:Sp.May x):Ed.txt (Sp.enc x) (spTx x 1).length=some (x.host.data.toList,(spTx x 2).length):=by
 have e:Sp.enc x=spTx x 1++(Ed.encT x.host.data.toList++(Ed.encT x.note.data.toList++[])):=by simp [spTx,spNm,Sp.enc]
 rw [e,Ed.txt_enc _ _ _ h.host.len]
 simp [spTx]
theorem spTx_get2 {x:Sp.Span} (h:Sp.May x):Ed.txt (Sp.enc x) (spTx x 2).length=some (x.note.data.toList,(spTx x 3).length):=by
 have e:Sp.enc x=spTx x 2++(Ed.encT x.note.data.toList++[]):=by simp [spTx,spNm,Sp.enc]
 rw [e,Ed.txt_enc _ _ _ (by have:=h.note;rw [Sp.size_toList];omega)]
 simp [spTx]
theorem take_get {E:ByteArray} {s:List UInt8} {p p1 n:Nat} {z:Int} (W:World) (hE:E.data.toList=s) (hg:Var.get s p=some (n,p1)) (hz:(n:Int)=z) (hs:E.size≤maxLen) (hp:p≤9223372036854775807) :
  Calls Tryz.prog 145 #[.string E,.int .i64 p] W fun e w' => e=.returned (.tuple #[.int .i64 z,.int .i64 p1,.bool true])∧W=w':=by
 refine (get_any E p W hs hp).mono ?_
 rintro e w' ⟨rfl,rfl⟩
 rw [hE,hg]
 unfold gotE
 simp only
 rw [hz]
 first
 | exact ⟨rfl,rfl⟩
 | simp
theorem take_txt {E t:ByteArray} {s:List UInt8} {p p1:Nat} (W:World) (hE:E.data.toList=s) (hg:Ed.txt s p=some (t.data.toList,p1)) (hs:E.size≤maxLen) (hp:p≤9223372036854775807) :
  Calls Tryz.prog 92 #[.string E,.int .i64 p] W fun e w' => e=.returned (.tuple #[.string t,.int .i64 p1,.bool true])∧W=w':=by
 refine (getText_any E p W hs hp).mono ?_
 rintro e w' ⟨rfl,rfl⟩
 rw [hE,hg]
 unfold txtE
 simp only [Sp.toList_mk]
 first
 | exact ⟨rfl,rfl⟩
 | simp
section
variable {w w':World}
set_option maxHeartbeats 8000000 in
theorem htake_enc (x:Sp.Span) (hm:Sp.May x) (E:ByteArray) (hE:E.data.toList=Sp.enc x) :
  Calls Tryz.prog 150 #[.string E,.int .i64 0] w fun e w' => e=.returned (.tuple #[spV x,.int .i64 (Sp.enc x).length,.bool true])∧Below w.heap.size w w':=by
 have hel:=Sp.enc_len hm
 have HED:=Lib.hid hE
 have HEZ:=Lib.hid (show E.size≤maxLen from by have:=congrArg List.length hE;rw [Sp.size_toList] at this;unfold maxLen;omega)
 have HNL:=Lib.hid (fun (k:Nat) (hk:k≤5) => spNm_len hm k hk)
 have HTL:=Lib.hid (fun (k:Nat) (hk:k≤3) => spTx_len hm k hk)
 have HMAY:=Lib.hid hm
 obtain ⟨q,hq⟩:∃ q,q=w.heap.size:=⟨_,rfl⟩
 obtain ⟨w1,hw1⟩:∃ w1,w1=w.alloc (.cells #[.int .i64 0,.int .i64 0,.int .i64 0,.string ⟨#[]⟩,.string ⟨#[]⟩,.int .i64 0,.int .i64 0,.string ⟨#[]⟩] 47 (0,0)):=⟨_,rfl⟩
 have hb1:Below w.heap.size w w1:=by rw [hw1];exact (Below.refl _ _).alloc (Nat.le_refl _) _
 have hk1:Blk w1 q 47 (spCs x 0):=by rw [hw1,hq];exact Blk.alloc_new w _ _
 have HNS:=Lib.hid (hnums_any (w:=w1) q)
 unfold numsV at HNS
 have HQZ:=Lib.hid (show w.heap.size≤q from by omega)
 have HB1:=Lib.hid hb1
 have HK1:=Lib.hid hk1
 have HW1:=Lib.hid hw1
 obtain ⟨len,hlen⟩:∃ len,len=(Sp.enc x).length:=⟨_,rfl⟩
 rw [← hlen]
 have HLN:=Lib.hid hlen
 clear hel hE hm hb1 hk1 hw1 hlen
 go_enter Tryz.func150,Tryz.ntmps150
 go_wp2_with fail
 rw [← HW1.out,← hq]
 clear hq
 refine HNS.out.mono ?_
 rintro e w2 ⟨rfl,hb2⟩
 have HB2:=Lib.hid (HB1.out.trans (hb2.mono HB1.out.size))
 have HK2:=Lib.hid (HK1.out.below hb2)
 clear hb2
 go_wp2_with fail
 go_loopw [1,6,8,12] (fun v1 _ _ v12 wr => ∃ k:Nat,v12=.int .i64 k∧k≤5∧v1=.int .i64 (spNm x k).length∧Blk wr q 47 (spCs x k)∧Below w.heap.size w wr) (fun _ _ _ v12 _ => 5-(intOf v12).toNat)
 case atStart => exact ⟨0,rfl,by omega,rfl,HK2.out,HB2.out⟩
 case round =>
  obtain ⟨k,rfl,hk,rfl,hkb,hb⟩:=hrel
  have HK:=Lib.hid hkb
  have HB:=Lib.hid hb
  clear hkb hb HB2 HK2
  rcases (show k=0∨k=1∨k=2∨k=3∨k=4∨k=5 by omega) with rfl | rfl | rfl | rfl | rfl | rfl
  · have HGK:=Lib.hid (fun W:World => take_get (E:=E) (p:=(spNm x 0).length) W HED.out (spNm_get0 HMAY.out) (Int.toNat_of_nonneg (by have:=HMAY.out.trace;omega)) HEZ.out (by have:=HNL.out 0 (by omega);omega))
    obtain ⟨p0,hp0⟩:∃ p0,p0=(spNm x 0).length:=⟨_,rfl⟩
    obtain ⟨p1,hp1⟩:∃ p1,p1=(spNm x (0+1)).length:=⟨_,rfl⟩
    rw [← hp0] at HGK ⊢
    rw [← hp1] at HGK
    have HP1:=Lib.hid hp1
    obtain ⟨nv,hnv⟩:∃ nv,nv=x.trace:=⟨_,rfl⟩
    rw [← hnv] at HGK
    have HNV:=Lib.hid hnv
    have c0:=HK.out.cell 0
    have f0:=HK.out.free 0
    simp [spCs] at c0
    obtain ⟨qb,hqb⟩:∃ qb,qb=wr.heap.size:=⟨_,rfl⟩
    obtain ⟨wb,hwb⟩:∃ wb,wb=wr.alloc (.cells #[.pointer (some ⟨q,0,none⟩),.int .i64 1,.int .i64 2147483647] 166 (0,0)):=⟨_,rfl⟩
    have hbb:Below wr.heap.size wr wb:=by rw [hwb];exact (Below.refl _ _).alloc (Nat.le_refl _) _
    have hkb:Blk wb qb 166 #[.pointer (some ⟨q,0,none⟩),.int .i64 1,.int .i64 2147483647]:=by rw [hwb,hqb];exact Blk.alloc_new wr _ _
    have hne:qb≠q:=by have:=HK.out.lt;omega
    have HKQ:=Lib.hid (HK.out.below hbb)
    have HB2:=Lib.hid (HB.out.trans (hbb.mono HB.out.size))
    have HWB:=Lib.hid hwb
    have HKB:=Lib.hid hkb
    have NA:=num_at0 q
    clear hp0 hp1 hnv hwb hbb hkb
    go_wp2_with fail
    rw [← HWB.out,← hqb]
    clear hqb
    refine wp_region_two (T:=fun W => W.cell? ⟨qb,0,none⟩=some (.pointer (some ⟨q,0,none⟩))) (S:=fun _ => True) (n:=10) (by kernel_rfl) ?_
    obtain ⟨y1,hy1⟩:∃ y1,y1=wb.drew:=⟨_,rfl⟩
    rw [← hy1]
    have hby:Below wb.heap.size wb y1:=by rw [hy1];exact (Below.refl _ _).drew
    have HKY:=Lib.hid (HKQ.out.below hby)
    have HBY:=Lib.hid (HB2.out.trans (hby.mono HB2.out.size))
    have hS:True:=trivial
    have hT:=(HKB.out.below hby).cell 0
    have hkb1:=HKB.out.below hby
    have c1:=HKY.out.cell 0
    have f1:=HKY.out.free 0
    simp [spCs] at c1
    clear hy1 hby c0 f0
    refine tk 0 16 hT hS ?_
    refine tk 1 17 hT hS ?_
    try simp only [xq]
    refine tk 2 18 hT hS ?_
    refine tk 3 19 hT hS ?_
    try simp only [xq]
    refine two_one 4 rfl (by kernel_rfl) ?_
    intro K hK
    go_simp
    refine (HGK.out y1).mono ?_
    rintro e y2 ⟨rfl,rfl⟩
    refine hK.out _ _ hT (fun _ _ => hS) ?_
    clear hK K
    try simp only [xq]
    refine tk 5 15 hT hS ?_
    refine tk 6 21 hT hS ?_
    try simp only [xq]
    refine tk 7 22 hT hS ?_
    refine tk 8 23 hT hS ?_
    try simp only [xq]
    refine tk 9 24 hT hS ?_
    try simp only [xq]
    refine two_one 10 rfl (by kernel_rfl) ?_
    intro K hK
    go_simp
    have hk2:=HKY.out.set 0 (.int .i64 nv)
    have hT2:=(hkb1.chg ((Chg.refl (fun k => k=q) y1).setCell (p:=⟨q,0,none⟩) (fun _ => rfl) (.int .i64 nv)) hne).cell 0
    refine hK.out _ _ hT2 (fun _ e => absurd rfl e) ?_
    have HK2:=Lib.hid (show Blk (y1.setCell ⟨q,0,none⟩ (.int .i64 nv)) q 47 (spCs x (0+1)) from by
     have:=hk2
     simp only [spCs,List.setIfInBounds_toArray,List.set_cons_zero,List.set_cons_succ] at this ⊢
     rw [HNV.out] at this ⊢
     exact this)
    have HB3:=Lib.hid (HBY.out.setCell (p:=⟨q,0,none⟩) HQZ.out (.int .i64 nv))
    clear hK K hT hkb1 hk2 c1 f1
    have hT:=hT2
    clear hT2
    try simp only [xq]
    refine two_one 11 rfl (by kernel_rfl) ?_
    intro K hK
    go_simp
    refine hK.out _ _ hT (fun _ _ => hS) ?_
    clear hK K
    try simp only [xq]
    refine two_one 12 rfl (by kernel_rfl) ?_
    intro K hK
    go_simp
    refine hK.out _ _ hT (fun _ _ => hS) ?_
    clear hK K
    try simp only [xq]
    refine two_done (by kernel_rfl) ?_ _
    clear hT hS
    go_wp2_with fail
    go_roundw
    case rel => exact ⟨0+1,by go_num,by omega,by rw [HP1.out],HK2.out,HB3.out⟩
    case measure => simp [intOf]
  · have HGK:=Lib.hid (fun W:World => take_get (E:=E) (p:=(spNm x 1).length) W HED.out (spNm_get1 HMAY.out) (Int.toNat_of_nonneg (by have:=HMAY.out.id;omega)) HEZ.out (by have:=HNL.out 1 (by omega);omega))
    obtain ⟨p0,hp0⟩:∃ p0,p0=(spNm x 1).length:=⟨_,rfl⟩
    obtain ⟨p1,hp1⟩:∃ p1,p1=(spNm x (1+1)).length:=⟨_,rfl⟩
    rw [← hp0] at HGK ⊢
    rw [← hp1] at HGK
    have HP1:=Lib.hid hp1
    obtain ⟨nv,hnv⟩:∃ nv,nv=x.id:=⟨_,rfl⟩
    rw [← hnv] at HGK
    have HNV:=Lib.hid hnv
    have c0:=HK.out.cell 1
    have f0:=HK.out.free 1
    simp [spCs] at c0
    obtain ⟨qb,hqb⟩:∃ qb,qb=wr.heap.size:=⟨_,rfl⟩
    obtain ⟨wb,hwb⟩:∃ wb,wb=wr.alloc (.cells #[.pointer (some ⟨q,1,none⟩),.int .i64 1,.int .i64 2147483647] 166 (0,0)):=⟨_,rfl⟩
    have hbb:Below wr.heap.size wr wb:=by rw [hwb];exact (Below.refl _ _).alloc (Nat.le_refl _) _
    have hkb:Blk wb qb 166 #[.pointer (some ⟨q,1,none⟩),.int .i64 1,.int .i64 2147483647]:=by rw [hwb,hqb];exact Blk.alloc_new wr _ _
    have hne:qb≠q:=by have:=HK.out.lt;omega
    have HKQ:=Lib.hid (HK.out.below hbb)
    have HB2:=Lib.hid (HB.out.trans (hbb.mono HB.out.size))
    have HWB:=Lib.hid hwb
    have HKB:=Lib.hid hkb
    have NA:=num_at1 q
    clear hp0 hp1 hnv hwb hbb hkb
    go_wp2_with fail
    rw [← HWB.out,← hqb]
    clear hqb
    refine wp_region_two (T:=fun W => W.cell? ⟨qb,0,none⟩=some (.pointer (some ⟨q,1,none⟩))) (S:=fun _ => True) (n:=10) (by kernel_rfl) ?_
    obtain ⟨y1,hy1⟩:∃ y1,y1=wb.drew:=⟨_,rfl⟩
    rw [← hy1]
    have hby:Below wb.heap.size wb y1:=by rw [hy1];exact (Below.refl _ _).drew
    have HKY:=Lib.hid (HKQ.out.below hby)
    have HBY:=Lib.hid (HB2.out.trans (hby.mono HB2.out.size))
    have hS:True:=trivial
    have hT:=(HKB.out.below hby).cell 0
    have hkb1:=HKB.out.below hby
    have c1:=HKY.out.cell 1
    have f1:=HKY.out.free 1
    simp [spCs] at c1
    clear hy1 hby c0 f0
    refine tk 0 16 hT hS ?_
    refine tk 1 17 hT hS ?_
    try simp only [xq]
    refine tk 2 18 hT hS ?_
    refine tk 3 19 hT hS ?_
    try simp only [xq]
    refine two_one 4 rfl (by kernel_rfl) ?_
    intro K hK
    go_simp
    refine (HGK.out y1).mono ?_
    rintro e y2 ⟨rfl,rfl⟩
    refine hK.out _ _ hT (fun _ _ => hS) ?_
    clear hK K
    try simp only [xq]
    refine tk 5 15 hT hS ?_
    refine tk 6 21 hT hS ?_
    try simp only [xq]
    refine tk 7 22 hT hS ?_
    refine tk 8 23 hT hS ?_
    try simp only [xq]
    refine tk 9 24 hT hS ?_
    try simp only [xq]
    refine two_one 10 rfl (by kernel_rfl) ?_
    intro K hK
    go_simp
    have hk2:=HKY.out.set 1 (.int .i64 nv)
    have hT2:=(hkb1.chg ((Chg.refl (fun k => k=q) y1).setCell (p:=⟨q,1,none⟩) (fun _ => rfl) (.int .i64 nv)) hne).cell 0
    refine hK.out _ _ hT2 (fun _ e => absurd rfl e) ?_
    have HK2:=Lib.hid (show Blk (y1.setCell ⟨q,1,none⟩ (.int .i64 nv)) q 47 (spCs x (1+1)) from by
     have:=hk2
     simp only [spCs,List.setIfInBounds_toArray,List.set_cons_zero,List.set_cons_succ] at this ⊢
     rw [HNV.out] at this ⊢
     exact this)
    have HB3:=Lib.hid (HBY.out.setCell (p:=⟨q,1,none⟩) HQZ.out (.int .i64 nv))
    clear hK K hT hkb1 hk2 c1 f1
    have hT:=hT2
    clear hT2
    try simp only [xq]
    refine two_one 11 rfl (by kernel_rfl) ?_
    intro K hK
    go_simp
    refine hK.out _ _ hT (fun _ _ => hS) ?_
    clear hK K
    try simp only [xq]
    refine two_one 12 rfl (by kernel_rfl) ?_
    intro K hK
    go_simp
    refine hK.out _ _ hT (fun _ _ => hS) ?_
    clear hK K
    try simp only [xq]
    refine two_done (by kernel_rfl) ?_ _
    clear hT hS
    go_wp2_with fail
    go_roundw
    case rel => exact ⟨1+1,by go_num,by omega,by rw [HP1.out],HK2.out,HB3.out⟩
    case measure => simp [intOf]
  · have HGK:=Lib.hid (fun W:World => take_get (E:=E) (p:=(spNm x 2).length) W HED.out (spNm_get2 HMAY.out) (Int.toNat_of_nonneg (by have:=HMAY.out.parent;omega)) HEZ.out (by have:=HNL.out 2 (by omega);omega))
    obtain ⟨p0,hp0⟩:∃ p0,p0=(spNm x 2).length:=⟨_,rfl⟩
    obtain ⟨p1,hp1⟩:∃ p1,p1=(spNm x (2+1)).length:=⟨_,rfl⟩
    rw [← hp0] at HGK ⊢
    rw [← hp1] at HGK
    have HP1:=Lib.hid hp1
    obtain ⟨nv,hnv⟩:∃ nv,nv=x.parent:=⟨_,rfl⟩
    rw [← hnv] at HGK
    have HNV:=Lib.hid hnv
    have c0:=HK.out.cell 2
    have f0:=HK.out.free 2
    simp [spCs] at c0
    obtain ⟨qb,hqb⟩:∃ qb,qb=wr.heap.size:=⟨_,rfl⟩
    obtain ⟨wb,hwb⟩:∃ wb,wb=wr.alloc (.cells #[.pointer (some ⟨q,2,none⟩),.int .i64 0,.int .i64 2147483647] 166 (0,0)):=⟨_,rfl⟩
    have hbb:Below wr.heap.size wr wb:=by rw [hwb];exact (Below.refl _ _).alloc (Nat.le_refl _) _
    have hkb:Blk wb qb 166 #[.pointer (some ⟨q,2,none⟩),.int .i64 0,.int .i64 2147483647]:=by rw [hwb,hqb];exact Blk.alloc_new wr _ _
    have hne:qb≠q:=by have:=HK.out.lt;omega
    have HKQ:=Lib.hid (HK.out.below hbb)
    have HB2:=Lib.hid (HB.out.trans (hbb.mono HB.out.size))
    have HWB:=Lib.hid hwb
    have HKB:=Lib.hid hkb
    have NA:=num_at2 q
    clear hp0 hp1 hnv hwb hbb hkb
    go_wp2_with fail
    rw [← HWB.out,← hqb]
    clear hqb
    refine wp_region_two (T:=fun W => W.cell? ⟨qb,0,none⟩=some (.pointer (some ⟨q,2,none⟩))) (S:=fun _ => True) (n:=10) (by kernel_rfl) ?_
    obtain ⟨y1,hy1⟩:∃ y1,y1=wb.drew:=⟨_,rfl⟩
    rw [← hy1]
    have hby:Below wb.heap.size wb y1:=by rw [hy1];exact (Below.refl _ _).drew
    have HKY:=Lib.hid (HKQ.out.below hby)
    have HBY:=Lib.hid (HB2.out.trans (hby.mono HB2.out.size))
    have hS:True:=trivial
    have hT:=(HKB.out.below hby).cell 0
    have hkb1:=HKB.out.below hby
    have c1:=HKY.out.cell 2
    have f1:=HKY.out.free 2
    simp [spCs] at c1
    clear hy1 hby c0 f0
    refine tk 0 16 hT hS ?_
    refine tk 1 17 hT hS ?_
    try simp only [xq]
    refine tk 2 18 hT hS ?_
    refine tk 3 19 hT hS ?_
    try simp only [xq]
    refine two_one 4 rfl (by kernel_rfl) ?_
    intro K hK
    go_simp
    refine (HGK.out y1).mono ?_
    rintro e y2 ⟨rfl,rfl⟩
    refine hK.out _ _ hT (fun _ _ => hS) ?_
    clear hK K
    try simp only [xq]
    refine tk 5 15 hT hS ?_
    refine tk 6 21 hT hS ?_
    try simp only [xq]
    refine tk 7 22 hT hS ?_
    refine tk 8 23 hT hS ?_
    try simp only [xq]
    refine tk 9 24 hT hS ?_
    try simp only [xq]
    refine two_one 10 rfl (by kernel_rfl) ?_
    intro K hK
    go_simp
    have hk2:=HKY.out.set 2 (.int .i64 nv)
    have hT2:=(hkb1.chg ((Chg.refl (fun k => k=q) y1).setCell (p:=⟨q,2,none⟩) (fun _ => rfl) (.int .i64 nv)) hne).cell 0
    refine hK.out _ _ hT2 (fun _ e => absurd rfl e) ?_
    have HK2:=Lib.hid (show Blk (y1.setCell ⟨q,2,none⟩ (.int .i64 nv)) q 47 (spCs x (2+1)) from by
     have:=hk2
     simp only [spCs,List.setIfInBounds_toArray,List.set_cons_zero,List.set_cons_succ] at this ⊢
     rw [HNV.out] at this ⊢
     exact this)
    have HB3:=Lib.hid (HBY.out.setCell (p:=⟨q,2,none⟩) HQZ.out (.int .i64 nv))
    clear hK K hT hkb1 hk2 c1 f1
    have hT:=hT2
    clear hT2
    try simp only [xq]
    refine two_one 11 rfl (by kernel_rfl) ?_
    intro K hK
    go_simp
    refine hK.out _ _ hT (fun _ _ => hS) ?_
    clear hK K
    try simp only [xq]
    refine two_one 12 rfl (by kernel_rfl) ?_
    intro K hK
    go_simp
    refine hK.out _ _ hT (fun _ _ => hS) ?_
    clear hK K
    try simp only [xq]
    refine two_done (by kernel_rfl) ?_ _
    clear hT hS
    go_wp2_with fail
    go_roundw
    case rel => exact ⟨2+1,by go_num,by omega,by rw [HP1.out],HK2.out,HB3.out⟩
    case measure => simp [intOf]
  · have HGK:=Lib.hid (fun W:World => take_get (E:=E) (p:=(spNm x 3).length) W HED.out (spNm_get3 HMAY.out) (Int.toNat_of_nonneg (by have:=HMAY.out.start;omega)) HEZ.out (by have:=HNL.out 3 (by omega);omega))
    obtain ⟨p0,hp0⟩:∃ p0,p0=(spNm x 3).length:=⟨_,rfl⟩
    obtain ⟨p1,hp1⟩:∃ p1,p1=(spNm x (3+1)).length:=⟨_,rfl⟩
    rw [← hp0] at HGK ⊢
    rw [← hp1] at HGK
    have HP1:=Lib.hid hp1
    obtain ⟨nv,hnv⟩:∃ nv,nv=x.start:=⟨_,rfl⟩
    rw [← hnv] at HGK
    have HNV:=Lib.hid hnv
    have c0:=HK.out.cell 5
    have f0:=HK.out.free 5
    simp [spCs] at c0
    obtain ⟨qb,hqb⟩:∃ qb,qb=wr.heap.size:=⟨_,rfl⟩
    obtain ⟨wb,hwb⟩:∃ wb,wb=wr.alloc (.cells #[.pointer (some ⟨q,5,none⟩),.int .i64 0,.int .i64 1073741824] 166 (0,0)):=⟨_,rfl⟩
    have hbb:Below wr.heap.size wr wb:=by rw [hwb];exact (Below.refl _ _).alloc (Nat.le_refl _) _
    have hkb:Blk wb qb 166 #[.pointer (some ⟨q,5,none⟩),.int .i64 0,.int .i64 1073741824]:=by rw [hwb,hqb];exact Blk.alloc_new wr _ _
    have hne:qb≠q:=by have:=HK.out.lt;omega
    have HKQ:=Lib.hid (HK.out.below hbb)
    have HB2:=Lib.hid (HB.out.trans (hbb.mono HB.out.size))
    have HWB:=Lib.hid hwb
    have HKB:=Lib.hid hkb
    have NA:=num_at3 q
    clear hp0 hp1 hnv hwb hbb hkb
    go_wp2_with fail
    rw [← HWB.out,← hqb]
    clear hqb
    refine wp_region_two (T:=fun W => W.cell? ⟨qb,0,none⟩=some (.pointer (some ⟨q,5,none⟩))) (S:=fun _ => True) (n:=10) (by kernel_rfl) ?_
    obtain ⟨y1,hy1⟩:∃ y1,y1=wb.drew:=⟨_,rfl⟩
    rw [← hy1]
    have hby:Below wb.heap.size wb y1:=by rw [hy1];exact (Below.refl _ _).drew
    have HKY:=Lib.hid (HKQ.out.below hby)
    have HBY:=Lib.hid (HB2.out.trans (hby.mono HB2.out.size))
    have hS:True:=trivial
    have hT:=(HKB.out.below hby).cell 0
    have hkb1:=HKB.out.below hby
    have c1:=HKY.out.cell 5
    have f1:=HKY.out.free 5
    simp [spCs] at c1
    clear hy1 hby c0 f0
    refine tk 0 16 hT hS ?_
    refine tk 1 17 hT hS ?_
    try simp only [xq]
    refine tk 2 18 hT hS ?_
    refine tk 3 19 hT hS ?_
    try simp only [xq]
    refine two_one 4 rfl (by kernel_rfl) ?_
    intro K hK
    go_simp
    refine (HGK.out y1).mono ?_
    rintro e y2 ⟨rfl,rfl⟩
    refine hK.out _ _ hT (fun _ _ => hS) ?_
    clear hK K
    try simp only [xq]
    refine tk 5 15 hT hS ?_
    refine tk 6 21 hT hS ?_
    try simp only [xq]
    refine tk 7 22 hT hS ?_
    refine tk 8 23 hT hS ?_
    try simp only [xq]
    refine tk 9 24 hT hS ?_
    try simp only [xq]
    refine two_one 10 rfl (by kernel_rfl) ?_
    intro K hK
    go_simp
    have hk2:=HKY.out.set 5 (.int .i64 nv)
    have hT2:=(hkb1.chg ((Chg.refl (fun k => k=q) y1).setCell (p:=⟨q,5,none⟩) (fun _ => rfl) (.int .i64 nv)) hne).cell 0
    refine hK.out _ _ hT2 (fun _ e => absurd rfl e) ?_
    have HK2:=Lib.hid (show Blk (y1.setCell ⟨q,5,none⟩ (.int .i64 nv)) q 47 (spCs x (3+1)) from by
     have:=hk2
     simp only [spCs,List.setIfInBounds_toArray,List.set_cons_zero,List.set_cons_succ] at this ⊢
     rw [HNV.out] at this ⊢
     exact this)
    have HB3:=Lib.hid (HBY.out.setCell (p:=⟨q,5,none⟩) HQZ.out (.int .i64 nv))
    clear hK K hT hkb1 hk2 c1 f1
    have hT:=hT2
    clear hT2
    try simp only [xq]
    refine two_one 11 rfl (by kernel_rfl) ?_
    intro K hK
    go_simp
    refine hK.out _ _ hT (fun _ _ => hS) ?_
    clear hK K
    try simp only [xq]
    refine two_one 12 rfl (by kernel_rfl) ?_
    intro K hK
    go_simp
    refine hK.out _ _ hT (fun _ _ => hS) ?_
    clear hK K
    try simp only [xq]
    refine two_done (by kernel_rfl) ?_ _
    clear hT hS
    go_wp2_with fail
    go_roundw
    case rel => exact ⟨3+1,by go_num,by omega,by rw [HP1.out],HK2.out,HB3.out⟩
    case measure => simp [intOf]
  · have HGK:=Lib.hid (fun W:World => take_get (E:=E) (p:=(spNm x 4).length) W HED.out (spNm_get4 HMAY.out) (Int.toNat_of_nonneg (by have:=HMAY.out.dur;omega)) HEZ.out (by have:=HNL.out 4 (by omega);omega))
    obtain ⟨p0,hp0⟩:∃ p0,p0=(spNm x 4).length:=⟨_,rfl⟩
    obtain ⟨p1,hp1⟩:∃ p1,p1=(spNm x (4+1)).length:=⟨_,rfl⟩
    rw [← hp0] at HGK ⊢
    rw [← hp1] at HGK
    have HP1:=Lib.hid hp1
    obtain ⟨nv,hnv⟩:∃ nv,nv=x.dur:=⟨_,rfl⟩
    rw [← hnv] at HGK
    have HNV:=Lib.hid hnv
    have c0:=HK.out.cell 6
    have f0:=HK.out.free 6
    simp [spCs] at c0
    obtain ⟨qb,hqb⟩:∃ qb,qb=wr.heap.size:=⟨_,rfl⟩
    obtain ⟨wb,hwb⟩:∃ wb,wb=wr.alloc (.cells #[.pointer (some ⟨q,6,none⟩),.int .i64 0,.int .i64 1073741824] 166 (0,0)):=⟨_,rfl⟩
    have hbb:Below wr.heap.size wr wb:=by rw [hwb];exact (Below.refl _ _).alloc (Nat.le_refl _) _
    have hkb:Blk wb qb 166 #[.pointer (some ⟨q,6,none⟩),.int .i64 0,.int .i64 1073741824]:=by rw [hwb,hqb];exact Blk.alloc_new wr _ _
    have hne:qb≠q:=by have:=HK.out.lt;omega
    have HKQ:=Lib.hid (HK.out.below hbb)
    have HB2:=Lib.hid (HB.out.trans (hbb.mono HB.out.size))
    have HWB:=Lib.hid hwb
    have HKB:=Lib.hid hkb
    have NA:=num_at4 q
    clear hp0 hp1 hnv hwb hbb hkb
    go_wp2_with fail
    rw [← HWB.out,← hqb]
    clear hqb
    refine wp_region_two (T:=fun W => W.cell? ⟨qb,0,none⟩=some (.pointer (some ⟨q,6,none⟩))) (S:=fun _ => True) (n:=10) (by kernel_rfl) ?_
    obtain ⟨y1,hy1⟩:∃ y1,y1=wb.drew:=⟨_,rfl⟩
    rw [← hy1]
    have hby:Below wb.heap.size wb y1:=by rw [hy1];exact (Below.refl _ _).drew
    have HKY:=Lib.hid (HKQ.out.below hby)
    have HBY:=Lib.hid (HB2.out.trans (hby.mono HB2.out.size))
    have hS:True:=trivial
    have hT:=(HKB.out.below hby).cell 0
    have hkb1:=HKB.out.below hby
    have c1:=HKY.out.cell 6
    have f1:=HKY.out.free 6
    simp [spCs] at c1
    clear hy1 hby c0 f0
    refine tk 0 16 hT hS ?_
    refine tk 1 17 hT hS ?_
    try simp only [xq]
    refine tk 2 18 hT hS ?_
    refine tk 3 19 hT hS ?_
    try simp only [xq]
    refine two_one 4 rfl (by kernel_rfl) ?_
    intro K hK
    go_simp
    refine (HGK.out y1).mono ?_
    rintro e y2 ⟨rfl,rfl⟩
    refine hK.out _ _ hT (fun _ _ => hS) ?_
    clear hK K
    try simp only [xq]
    refine tk 5 15 hT hS ?_
    refine tk 6 21 hT hS ?_
    try simp only [xq]
    refine tk 7 22 hT hS ?_
    refine tk 8 23 hT hS ?_
    try simp only [xq]
    refine tk 9 24 hT hS ?_
    try simp only [xq]
    refine two_one 10 rfl (by kernel_rfl) ?_
    intro K hK
    go_simp
    have hk2:=HKY.out.set 6 (.int .i64 nv)
    have hT2:=(hkb1.chg ((Chg.refl (fun k => k=q) y1).setCell (p:=⟨q,6,none⟩) (fun _ => rfl) (.int .i64 nv)) hne).cell 0
    refine hK.out _ _ hT2 (fun _ e => absurd rfl e) ?_
    have HK2:=Lib.hid (show Blk (y1.setCell ⟨q,6,none⟩ (.int .i64 nv)) q 47 (spCs x (4+1)) from by
     have:=hk2
     simp only [spCs,List.setIfInBounds_toArray,List.set_cons_zero,List.set_cons_succ] at this ⊢
     rw [HNV.out] at this ⊢
     exact this)
    have HB3:=Lib.hid (HBY.out.setCell (p:=⟨q,6,none⟩) HQZ.out (.int .i64 nv))
    clear hK K hT hkb1 hk2 c1 f1
    have hT:=hT2
    clear hT2
    try simp only [xq]
    refine two_one 11 rfl (by kernel_rfl) ?_
    intro K hK
    go_simp
    refine hK.out _ _ hT (fun _ _ => hS) ?_
    clear hK K
    try simp only [xq]
    refine two_one 12 rfl (by kernel_rfl) ?_
    intro K hK
    go_simp
    refine hK.out _ _ hT (fun _ _ => hS) ?_
    clear hK K
    try simp only [xq]
    refine two_done (by kernel_rfl) ?_ _
    clear hT hS
    go_wp2_with fail
    go_roundw
    case rel => exact ⟨4+1,by go_num,by omega,by rw [HP1.out],HK2.out,HB3.out⟩
    case measure => simp [intOf]
  · have hpe:(spNm x 5).length=(spTx x 0).length:=by simp [spTx]
    rw [hpe]
    have HK0:=Lib.hid (show Blk wr q 47 (spCt x 0) from HK.out)
    have HTX:=Lib.hid (htxts_any (w:=wr) q)
    unfold txtsV at HTX
    clear hpe
    go_wp2_with fail
    refine HTX.out.mono ?_
    rintro e w3 ⟨rfl,hb3⟩
    have HB3:=Lib.hid (HB.out.trans (hb3.mono HB.out.size))
    have HK3:=Lib.hid (HK0.out.below hb3)
    clear hb3 HK HB HK0
    go_wp2_with fail
    go_loopw [1,6,10,30] (fun v1 _ _ v30 wr => ∃ k:Nat,v30=.int .i64 k∧k≤3∧v1=.int .i64 (spTx x k).length∧Blk wr q 47 (spCt x k)∧Below w.heap.size w wr) (fun _ _ _ v30 _ => 3-(intOf v30).toNat)
    case atStart => exact ⟨0,rfl,by omega,rfl,HK3.out,HB3.out⟩
    case round =>
     obtain ⟨k,rfl,hk3,rfl,hkb,hb⟩:=hrel
     have HK:=Lib.hid hkb
     have HB:=Lib.hid hb
     clear hkb hb HB3 HK3
     rcases (show k=0∨k=1∨k=2∨k=3 by omega) with rfl | rfl | rfl | rfl
     · have HGK:=Lib.hid (fun W:World => take_txt (E:=E) (p:=(spTx x 0).length) W HED.out (spTx_get0 HMAY.out) HEZ.out (by have:=HTL.out 0 (by omega);omega))
       obtain ⟨p0,hp0⟩:∃ p0,p0=(spTx x 0).length:=⟨_,rfl⟩
       obtain ⟨p1,hp1⟩:∃ p1,p1=(spTx x (0+1)).length:=⟨_,rfl⟩
       rw [← hp0] at HGK ⊢
       rw [← hp1] at HGK
       have HP1:=Lib.hid hp1
       obtain ⟨nv,hnv⟩:∃ nv,nv=x.service:=⟨_,rfl⟩
       rw [← hnv] at HGK
       have HNV:=Lib.hid hnv
       have TA:=txt_at0 q
       clear hp0 hp1 hnv
       go_wp2_with fail
       have c1:=HK.out.cell 3
       have f1:=HK.out.free 3
       simp [spCt] at c1
       refine (HGK.out wr).mono ?_
       rintro e y2 ⟨rfl,rfl⟩
       have hk2:=HK.out.set 3 (.string nv)
       have HK2:=Lib.hid (show Blk (wr.setCell ⟨q,3,none⟩ (.string nv)) q 47 (spCt x (0+1)) from by
        have:=hk2
        simp only [spCt,List.setIfInBounds_toArray,List.set_cons_zero,List.set_cons_succ] at this ⊢
        rw [HNV.out] at this ⊢
        exact this)
       have HB3:=Lib.hid (HB.out.setCell (p:=⟨q,3,none⟩) HQZ.out (.string nv))
       clear hk2
       go_wp2_with fail
       go_roundw
       case rel => exact ⟨0+1,by go_num,by omega,by rw [HP1.out],HK2.out,HB3.out⟩
       case measure => simp [intOf]
     · have HGK:=Lib.hid (fun W:World => take_txt (E:=E) (p:=(spTx x 1).length) W HED.out (spTx_get1 HMAY.out) HEZ.out (by have:=HTL.out 1 (by omega);omega))
       obtain ⟨p0,hp0⟩:∃ p0,p0=(spTx x 1).length:=⟨_,rfl⟩
       obtain ⟨p1,hp1⟩:∃ p1,p1=(spTx x (1+1)).length:=⟨_,rfl⟩
       rw [← hp0] at HGK ⊢
       rw [← hp1] at HGK
       have HP1:=Lib.hid hp1
       obtain ⟨nv,hnv⟩:∃ nv,nv=x.host:=⟨_,rfl⟩
       rw [← hnv] at HGK
       have HNV:=Lib.hid hnv
       have TA:=txt_at1 q
       clear hp0 hp1 hnv
       go_wp2_with fail
       have c1:=HK.out.cell 4
       have f1:=HK.out.free 4
       simp [spCt] at c1
       refine (HGK.out wr).mono ?_
       rintro e y2 ⟨rfl,rfl⟩
       have hk2:=HK.out.set 4 (.string nv)
       have HK2:=Lib.hid (show Blk (wr.setCell ⟨q,4,none⟩ (.string nv)) q 47 (spCt x (1+1)) from by
        have:=hk2
        simp only [spCt,List.setIfInBounds_toArray,List.set_cons_zero,List.set_cons_succ] at this ⊢
        rw [HNV.out] at this ⊢
        exact this)
       have HB3:=Lib.hid (HB.out.setCell (p:=⟨q,4,none⟩) HQZ.out (.string nv))
       clear hk2
       go_wp2_with fail
       go_roundw
       case rel => exact ⟨1+1,by go_num,by omega,by rw [HP1.out],HK2.out,HB3.out⟩
       case measure => simp [intOf]
     · have HGK:=Lib.hid (fun W:World => take_txt (E:=E) (p:=(spTx x 2).length) W HED.out (spTx_get2 HMAY.out) HEZ.out (by have:=HTL.out 2 (by omega);omega))
       obtain ⟨p0,hp0⟩:∃ p0,p0=(spTx x 2).length:=⟨_,rfl⟩
       obtain ⟨p1,hp1⟩:∃ p1,p1=(spTx x (2+1)).length:=⟨_,rfl⟩
       rw [← hp0] at HGK ⊢
       rw [← hp1] at HGK
       have HP1:=Lib.hid hp1
       obtain ⟨nv,hnv⟩:∃ nv,nv=x.note:=⟨_,rfl⟩
       rw [← hnv] at HGK
       have HNV:=Lib.hid hnv
       have TA:=txt_at2 q
       clear hp0 hp1 hnv
       go_wp2_with fail
       have c1:=HK.out.cell 7
       have f1:=HK.out.free 7
       simp [spCt] at c1
       refine (HGK.out wr).mono ?_
       rintro e y2 ⟨rfl,rfl⟩
       have hk2:=HK.out.set 7 (.string nv)
       have HK2:=Lib.hid (show Blk (wr.setCell ⟨q,7,none⟩ (.string nv)) q 47 (spCt x (2+1)) from by
        have:=hk2
        simp only [spCt,List.setIfInBounds_toArray,List.set_cons_zero,List.set_cons_succ] at this ⊢
        rw [HNV.out] at this ⊢
        exact this)
       have HB3:=Lib.hid (HB.out.setCell (p:=⟨q,7,none⟩) HQZ.out (.string nv))
       clear hk2
       go_wp2_with fail
       go_roundw
       case rel => exact ⟨2+1,by go_num,by omega,by rw [HP1.out],HK2.out,HB3.out⟩
       case measure => simp [intOf]
     · rw [spTx_enc,← HLN.out]
       have k0:=HK.out.cell 0
       have k1:=HK.out.cell 1
       have k2:=HK.out.cell 2
       have k3:=HK.out.cell 3
       have k4:=HK.out.cell 4
       have k5:=HK.out.cell 5
       have k6:=HK.out.cell 6
       have k7:=HK.out.cell 7
       simp [spCt] at k0 k1 k2 k3 k4 k5 k6 k7
       have f0:=HK.out.free 0
       have f1:=HK.out.free 1
       have f2:=HK.out.free 2
       have f3:=HK.out.free 3
       have f4:=HK.out.free 4
       have f5:=HK.out.free 5
       have f6:=HK.out.free 6
       have f7:=HK.out.free 7
       obtain ⟨tr,id,pa,se,ho,sa,du,no⟩:=x
       simp only at k0 k1 k2 k3 k4 k5 k6 k7
       have hk8:=(((((((HK.out.set 0 (.int .i64 tr)).set 1 (.int .i64 id)).set 2 (.int .i64 pa)).set 3 (.string se)).set 4 (.string ho)).set 5 (.int .i64 sa)).set 6 (.int .i64 du)).set 7 (.string no)
       have hb8:=(((((((HB.out.setCell (p:=⟨q,0,none⟩) HQZ.out (.int .i64 tr)).setCell (p:=⟨q,1,none⟩) HQZ.out (.int .i64 id)).setCell (p:=⟨q,2,none⟩) HQZ.out (.int .i64 pa)).setCell (p:=⟨q,3,none⟩) HQZ.out (.string se)).setCell (p:=⟨q,4,none⟩) HQZ.out (.string ho)).setCell (p:=⟨q,5,none⟩) HQZ.out (.int .i64 sa)).setCell (p:=⟨q,6,none⟩) HQZ.out (.int .i64 du)).setCell (p:=⟨q,7,none⟩) HQZ.out (.string no)
       simp only [spCt,List.setIfInBounds_toArray,List.set_cons_zero,List.set_cons_succ] at hk8
       have HK8:=Lib.hid hk8
       have HB8:=Lib.hid hb8
       clear hk8 hb8
       go_wp2_with fail
       have r0:=HK8.out.cell 0
       have r1:=HK8.out.cell 1
       have r2:=HK8.out.cell 2
       have r3:=HK8.out.cell 3
       have r4:=HK8.out.cell 4
       have r5:=HK8.out.cell 5
       have r6:=HK8.out.cell 6
       have r7:=HK8.out.cell 7
       simp only [List.getElem?_toArray,List.getElem?_cons_zero,List.getElem?_cons_succ] at r0 r1 r2 r3 r4 r5 r6 r7
       refine bodyPost_ret (v:=.tuple #[.agg #[.int .i64 tr,.int .i64 id,.int .i64 pa,.string se,.string ho,.int .i64 sa,.int .i64 du,.string no],.int .i64 len,.bool true]) (by simp [results,Tryz.results150,go_sem,r0,r1,r2,r3,r4,r5,r6,r7]) rfl ?_
       exact ⟨rfl,HB8.out⟩
end
end Go.Proofs.YtdacanghbepjpaaGreatDoor
namespace Go.Proofs.YtdacanghbepjpaaGreatDoor
set_option linter.unusedSimpArgs false
set_option linter.unusedVariables false
set_option maxRecDepth 100000
open Go.RowKit Go.Maps
section
variable {w w':World}
set_option maxHeartbeats 16000000 in
theorem hdecode_enc (x:Sp.Span) (hm:Sp.May x) (E:ByteArray) (hE:E.data.toList=Sp.enc x) :
  Calls Tryz.prog 93 #[.string E] w fun e w' => e=.returned (.tuple #[spV x,.int .i64 0])∧Below w.heap.size w w':=by
 have HTK:=Lib.hid (fun W:World => htake_enc (w:=W) x hm E hE)
 have HCK:=Lib.hid (fun W:World => hcheck_any (w:=W) x (by have:=hm.service.2.1;unfold maxLen;omega) (by have:=hm.host.2.1;unfold maxLen;omega) (by have:=hm.note;unfold maxLen;omega))
 rw [if_pos hm] at HCK
 have hel:=Sp.enc_len hm
 obtain ⟨len,hlen⟩:∃ len,len=(Sp.enc x).length:=⟨_,rfl⟩
 rw [← hlen] at HTK hel
 have hEz:E.size=len:=by have:=congrArg List.length hE;rw [Sp.size_toList] at this;omega
 have hnl:¬ (len:Int)<E.size:=by omega
 have hnl2:¬ len<E.size:=by omega
 have hEm:E.size≤1000:=by omega
 obtain ⟨q,hq⟩:∃ q,q=w.heap.size:=⟨_,rfl⟩
 obtain ⟨w1,hw1⟩:∃ w1,w1=w.alloc (.cells #[.int .i64 0,.int .i64 0,.int .i64 0,.string ⟨#[]⟩,.string ⟨#[]⟩,.int .i64 0,.int .i64 0,.string ⟨#[]⟩] 47 (0,0)):=⟨_,rfl⟩
 have hb1:Below w.heap.size w w1:=by rw [hw1];exact (Below.refl _ _).alloc (Nat.le_refl _) _
 have hk1:Blk w1 q 47 #[.int .i64 0,.int .i64 0,.int .i64 0,.string ⟨#[]⟩,.string ⟨#[]⟩,.int .i64 0,.int .i64 0,.string ⟨#[]⟩]:=by rw [hw1,hq];exact Blk.alloc_new w _ _
 have HQZ:=Lib.hid (show w.heap.size≤q from by omega)
 have HB1:=Lib.hid hb1
 have HK1:=Lib.hid hk1
 have HW1:=Lib.hid hw1
 obtain ⟨tr,id,pa,se,ho,sa,du,no⟩:=x
 unfold spV at HTK HCK ⊢
 simp only at HTK HCK ⊢
 clear hm hE hel hlen hEz hb1 hk1 hw1
 go_enter Tryz.func93,Tryz.ntmps93
 go_wp2_with fail
 rw [← HW1.out,← hq]
 clear hq
 refine (HTK.out w1).mono ?_
 rintro e w2 ⟨rfl,hb2⟩
 have HB2:=Lib.hid (HB1.out.trans (hb2.mono HB1.out.size))
 have HK2:=Lib.hid (HK1.out.below hb2)
 clear hb2
 obtain ⟨q4,hq4⟩:∃ q4,q4=w2.heap.size:=⟨_,rfl⟩
 obtain ⟨w3,hw3⟩:∃ w3,w3=w2.alloc (.cells #[.int .i64 tr,.int .i64 id,.int .i64 pa,.string se,.string ho,.int .i64 sa,.int .i64 du,.string no] 47 (0,0)):=⟨_,rfl⟩
 have hb3:Below w2.heap.size w2 w3:=by rw [hw3];exact (Below.refl _ _).alloc (Nat.le_refl _) _
 have hk3:Blk w3 q4 47 #[.int .i64 tr,.int .i64 id,.int .i64 pa,.string se,.string ho,.int .i64 sa,.int .i64 du,.string no]:=by rw [hw3,hq4];exact Blk.alloc_new w2 _ _
 have HB3:=Lib.hid (HB2.out.trans (hb3.mono HB2.out.size))
 have HK23:=Lib.hid (HK2.out.below hb3)
 have HK3:=Lib.hid hk3
 have HNE:=Lib.hid (show q4≠q from by have:=HK2.out.lt;omega)
 have HW3:=Lib.hid hw3
 clear hb3 hk3 hw3
 go_wp2_with fail
 rw [← HW3.out,← hq4]
 clear hq4
 refine (HCK.out w3).mono ?_
 rintro e w4 ⟨rfl,hb4⟩
 have HB4:=Lib.hid (HB3.out.trans (hb4.mono HB3.out.size))
 have hk4:=HK3.out.below hb4
 have hkq:=HK23.out.below hb4
 have k0:=hk4.cell 0
 have k1:=hk4.cell 1
 have k2:=hk4.cell 2
 have k3:=hk4.cell 3
 have k4:=hk4.cell 4
 have k5:=hk4.cell 5
 have k6:=hk4.cell 6
 have k7:=hk4.cell 7
 have c0:=hkq.cell 0
 have c1:=hkq.cell 1
 have c2:=hkq.cell 2
 have c3:=hkq.cell 3
 have c4:=hkq.cell 4
 have c5:=hkq.cell 5
 have c6:=hkq.cell 6
 have c7:=hkq.cell 7
 simp only [List.getElem?_toArray,List.getElem?_cons_zero,List.getElem?_cons_succ] at k0 k1 k2 k3 k4 k5 k6 k7 c0 c1 c2 c3 c4 c5 c6 c7
 have f0:=hkq.free 0
 have f1:=hkq.free 1
 have f2:=hkq.free 2
 have f3:=hkq.free 3
 have f4:=hkq.free 4
 have f5:=hkq.free 5
 have f6:=hkq.free 6
 have f7:=hkq.free 7
 have hk8:=(((((((hkq.set 0 (.int .i64 tr)).set 1 (.int .i64 id)).set 2 (.int .i64 pa)).set 3 (.string se)).set 4 (.string ho)).set 5 (.int .i64 sa)).set 6 (.int .i64 du)).set 7 (.string no)
 have hb8:=(((((((HB4.out.setCell (p:=⟨q,0,none⟩) HQZ.out (.int .i64 tr)).setCell (p:=⟨q,1,none⟩) HQZ.out (.int .i64 id)).setCell (p:=⟨q,2,none⟩) HQZ.out (.int .i64 pa)).setCell (p:=⟨q,3,none⟩) HQZ.out (.string se)).setCell (p:=⟨q,4,none⟩) HQZ.out (.string ho)).setCell (p:=⟨q,5,none⟩) HQZ.out (.int .i64 sa)).setCell (p:=⟨q,6,none⟩) HQZ.out (.int .i64 du)).setCell (p:=⟨q,7,none⟩) HQZ.out (.string no)
 simp only [List.setIfInBounds_toArray,List.set_cons_zero,List.set_cons_succ] at hk8
 have HK8:=Lib.hid hk8
 have HB8:=Lib.hid hb8
 clear hk8 hb8 hk4 hkq hb4
 go_wp2_with fail
 have r0:=HK8.out.cell 0
 have r1:=HK8.out.cell 1
 have r2:=HK8.out.cell 2
 have r3:=HK8.out.cell 3
 have r4:=HK8.out.cell 4
 have r5:=HK8.out.cell 5
 have r6:=HK8.out.cell 6
 have r7:=HK8.out.cell 7
 simp only [List.getElem?_toArray,List.getElem?_cons_zero,List.getElem?_cons_succ] at r0 r1 r2 r3 r4 r5 r6 r7
 refine bodyPost_ret (v:=.tuple #[.agg #[.int .i64 tr,.int .i64 id,.int .i64 pa,.string se,.string ho,.int .i64 sa,.int .i64 du,.string no],.int .i64 0]) (by simp [results,Tryz.results93,go_sem,r0,r1,r2,r3,r4,r5,r6,r7]) rfl ?_
 exact ⟨rfl,HB8.out⟩
end
end Go.Proofs.YtdacanghbepjpaaGreatDoor

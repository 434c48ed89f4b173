/- A span: its name's law; its numbers and texts: walked. -/
import Derived.Test.YtdacanghbepjpaaGreatDoorM5
import Derived.Test.YtdacanghbepjpaaGreatDoorHlShelf
import Derived.Test.YtdacanghbepjpaaGreatDoorSink2
import Derived.Test.YtdacanghbepjpaaGreatDoorM7
import Derived.Lib.DecodeN
namespace Go.Proofs.YtdacanghbepjpaaGreatDoor
set_option linter.unusedSimpArgs false
set_option linter.unusedVariables false
set_option maxRecDepth 100000
open Go.RowKit Go.Lib
def oddP (x:Nat):Bool:=decide (x≤32) || decide (126<x)
theorem decN_hi {n b0 b1 b2 b3:Nat} (h:128≤b0):128≤(decodeN n b0 b1 b2 b3).1:=by
 unfold decodeN
 rw [if_neg (by omega)]
 repeat' split
 all_goals simp only
 all_goals omega
theorem decN_lo {n b0 b1 b2 b3:Nat} (h:b0<128):decodeN n b0 b1 b2 b3=(b0,1):=by unfold decodeN;rw [if_pos h]
theorem idx_odd (s:ByteArray):∀ (f pos:Nat),s.size≤pos+f→(0≤idxFuncFrom oddP true s f pos↔∃ i,pos≤i∧i<s.size∧oddP (s.get! i).toNat=true)
 | 0,pos,h => by
  unfold idxFuncFrom
  constructor
  · intro h;omega
  · rintro ⟨i,h1,h2,_⟩;omega
 | f+1,pos,h => by
  unfold idxFuncFrom
  by_cases hp:pos<s.size
  · rw [if_pos hp,decode_at]
    by_cases hb:(s.get! pos).toNat<128
    · rw [decN_lo hb]
      simp only
      by_cases ho:oddP (s.get! pos).toNat=true
      · rw [if_pos ho]
        exact ⟨fun _ => ⟨pos,Nat.le_refl _,hp,ho⟩,fun _ => by omega⟩
      · rw [if_neg ho,idx_odd s f (pos+1) (by omega)]
        constructor
        · rintro ⟨i,h1,h2,h3⟩;exact ⟨i,by omega,h2,h3⟩
        · rintro ⟨i,h1,h2,h3⟩
          refine ⟨i,?_,h2,h3⟩
          by_cases e:i=pos
          · subst e;exact absurd h3 ho
          · omega
    · have h1:=decN_hi (n:=s.size-pos) (b1:=(s.get! (pos+1)).toNat) (b2:=(s.get! (pos+2)).toNat) (b3:=(s.get! (pos+3)).toNat) (show 128≤(s.get! pos).toNat by omega)
      rw [if_pos (by unfold oddP;rw [Bool.or_eq_true];exact .inr (decide_eq_true (by omega)))]
      exact ⟨fun _ => ⟨pos,Nat.le_refl _,hp,by unfold oddP;rw [Bool.or_eq_true];exact .inr (decide_eq_true (by omega))⟩,fun _ => by omega⟩
  · rw [if_neg hp]
    constructor
    · intro h;omega
    · rintro ⟨i,h1,h2,_⟩;omega
theorem name_iff (s:ByteArray):Sp.NameOk s↔(1≤s.size∧s.size≤12)∧¬ 0≤idxFunc oddP true s:=by
 unfold idxFunc
 rw [idx_odd s s.size 0 (by omega)]
 unfold Sp.NameOk
 constructor
 · rintro ⟨h1,h2,h3⟩
   refine ⟨⟨h1,h2⟩,?_⟩
   rintro ⟨i,_,hi,ho⟩
   have hm:s.get! i∈s.data.toList:=by
    have:s.get! i=s.data[i]'(by simpa using hi):=by simp [ByteArray.get!,getElem!_pos,hi]
    rw [this]
    exact Array.mem_toList_iff.2 (Array.getElem_mem _)
   have:=h3 _ hm
   unfold oddP at ho
   simp at ho
   omega
 · rintro ⟨⟨h1,h2⟩,h3⟩
   refine ⟨h1,h2,fun c hc => ?_⟩
   obtain ⟨i,hi,rfl⟩:=List.mem_iff_getElem.1 hc
   have hi2:i<s.size:=by simpa using hi
   have e:s.get! i=s.data.toList[i]:=by simp [ByteArray.get!,getElem!_pos,hi2]
   rw [← e]
   apply Classical.byContradiction
   intro hno
   apply h3
   refine ⟨i,Nat.zero_le _,hi2,?_⟩
   unfold oddP
   simp
   omega
section
variable {w0 w w':World}
theorem odd_any (x:Nat) (hx:x≤1114111):Calls Tryz.prog 198 #[.int .i32 x] w fun e w' => e=.returned (.bool (oddP x))∧Below w.heap.size w w':=by
 obtain ⟨r,hr⟩:∃ r,r=oddP x:=⟨_,rfl⟩
 rw [← hr]
 have HR:=Lib.hid hr
 clear hr
 by_cases h1:x≤32
 · have t1:(x:Int)≤32:=by omega
   have HV:=Lib.hid (show r=true by rw [HR.out];unfold oddP;rw [decide_eq_true h1];rfl)
   go_enter Tryz.func198,Tryz.ntmps198
   go_wp2_with fail
   go_ret
   rw [HV.out]
   exact ⟨rfl,Below.refl _ _⟩
 · have t1:¬ (x:Int)≤32:=by omega
   by_cases h2:126<x
   · have t2:(126:Int)<x:=by omega
     have HV:=Lib.hid (show r=true by rw [HR.out];unfold oddP;rw [decide_eq_true h2,Bool.or_true])
     go_enter Tryz.func198,Tryz.ntmps198
     go_wp2_with fail
     go_ret
     rw [HV.out]
     exact ⟨rfl,Below.refl _ _⟩
   · have t2:¬ (126:Int)<x:=by omega
     have HV:=Lib.hid (show r=false by rw [HR.out];unfold oddP;rw [decide_eq_false h1,decide_eq_false h2];rfl)
     go_enter Tryz.func198,Tryz.ntmps198
     go_wp2_with fail
     go_ret
     rw [HV.out]
     exact ⟨rfl,Below.refl _ _⟩
theorem hname_any (s:ByteArray) (hs:s.size≤maxLen):Calls Tryz.prog 173 #[.string s] w fun e w' => e=.returned (.bool (decide (Sp.NameOk s)))∧Below w.heap.size w w':=by
 have HCF:=Lib.hid (Tryz.strings_ContainsFunc_grows 198 #[] (fun args w => rfl) oddP s w (fun W x hx _ => odd_any (w:=W) x hx))
 have hn:=name_iff s
 obtain ⟨r,hr⟩:∃ r,r=decide (Sp.NameOk s):=⟨_,rfl⟩
 obtain ⟨cf,hcf⟩:∃ cf,cf=decide (0≤idxFunc oddP true s):=⟨_,rfl⟩
 rw [← hcf] at HCF
 rw [← hr]
 have HV:=Lib.hid (show r=(decide (1≤s.size) && decide (s.size≤12) && !cf) by
  rw [hr,hcf]
  simp only [hn]
  by_cases h1:1≤s.size <;> by_cases h2:s.size≤12 <;> by_cases h3:0≤idxFunc oddP true s <;> simp [h1,h2,h3])
 have hm:s.size≤9223372036854775807:=by unfold maxLen at hs;omega
 clear hr hcf hn hs
 by_cases h1:s.size=0
 · have hs:s=⟨#[]⟩:=by
    apply ByteArray.ext
    exact Array.size_eq_zero_iff.1 h1
   have HV2:=Lib.hid (show r=false by rw [HV.out,h1];rfl)
   subst hs
   clear h1
   go_enter Tryz.func173,Tryz.ntmps173
   go_wp2_with fail
   go_ret
   rw [HV2.out]
   exact ⟨rfl,Below.refl _ _⟩
 · have hne:(s.toList == [])=false:=by
    rw [beq_eq_false_iff_ne]
    intro e
    have:=congrArg List.length e
    rw [ByteArray.toList_eq] at this
    simp at this
    exact h1 (by rw [this];rfl)
   by_cases h2:s.size≤12
   · have t2:(s.size:Int)≤12:=by omega
     have HV2:=Lib.hid (show r=!cf by rw [HV.out,decide_eq_true (show 1≤s.size by omega),decide_eq_true h2];rfl)
     go_enter Tryz.func173,Tryz.ntmps173
     go_wp2_with fail
     refine HCF.out.mono ?_
     rintro e w1 ⟨rfl,hb⟩
     have HB:=Lib.hid hb
     clear hb
     go_wp2_with fail
     go_ret
     rw [HV2.out]
     exact ⟨by cases cf <;> rfl,HB.out⟩
   · have t2:¬ (s.size:Int)≤12:=by omega
     have HV2:=Lib.hid (show r=false by rw [HV.out,decide_eq_false h2];simp)
     go_enter Tryz.func173,Tryz.ntmps173
     go_wp2_with fail
     go_ret
     rw [HV2.out]
     exact ⟨rfl,Below.refl _ _⟩
def numsV (b:Nat):Value:=.agg #[.pointer (some ⟨b,0,none⟩),.int .i64 1,.int .i64 2147483647,.pointer (some ⟨b,1,none⟩),.int .i64 1,.int .i64 2147483647,.pointer (some ⟨b,2,none⟩),.int .i64 0,.int .i64 2147483647,.pointer (some ⟨b,5,none⟩),.int .i64 0,.int .i64 1073741824,.pointer (some ⟨b,6,none⟩),.int .i64 0,.int .i64 1073741824]
theorem hnums_any (b:Nat):Calls Tryz.prog 129 #[.pointer (some ⟨b,0,none⟩)] w fun e w' => e=.returned (numsV b)∧Below w.heap.size w w':=by
 go_enter Tryz.func129,Tryz.ntmps129
 go_wp2_with fail
 refine wp_region_two (T:=fun _ => True) (S:=fun _ => True) (n:=99) (by kernel_rfl) ?_
 have hT:True:=trivial
 have hS:True:=trivial
 refine tk 0 3 hT hS ?_
 refine tk 1 4 hT hS ?_
 refine tk 2 5 hT hS ?_
 refine tk 3 6 hT hS ?_
 refine tk 4 7 hT hS ?_
 refine tk 5 8 hT hS ?_
 refine tk 6 9 hT hS ?_
 refine tk 7 10 hT hS ?_
 refine tk 8 11 hT hS ?_
 refine tk 9 12 hT hS ?_
 refine tk 10 13 hT hS ?_
 refine tk 11 14 hT hS ?_
 refine tk 12 15 hT hS ?_
 refine tk 13 16 hT hS ?_
 refine tk 14 17 hT hS ?_
 refine tk 15 18 hT hS ?_
 refine tk 16 19 hT hS ?_
 refine tk 17 20 hT hS ?_
 refine tk 18 21 hT hS ?_
 refine tk 19 22 hT hS ?_
 refine tk 20 23 hT hS ?_
 try simp only [xq]
 refine two_one 21 rfl (by kernel_rfl) ?_
 intro K hK
 go_simp
 refine hK.out _ _ trivial (fun _ _ => trivial) ?_
 clear hK K
 try simp only [xq]
 refine two_done (by kernel_rfl) ?_ _
 clear hT hS
 go_wp2_with fail
 refine bodyPost_ret (v:=numsV b) (by simp [results,Tryz.results129,go_sem,numsV]) rfl ⟨rfl,(((Below.refl _ _).alloc (Nat.le_refl _) _).drew)⟩
def txtsV (b:Nat):Value:=.agg #[.pointer (some ⟨b,3,none⟩),.pointer (some ⟨b,4,none⟩),.pointer (some ⟨b,7,none⟩)]
theorem htxts_any (b:Nat):Calls Tryz.prog 132 #[.pointer (some ⟨b,0,none⟩)] w fun e w' => e=.returned (txtsV b)∧Below w.heap.size w w':=by
 go_enter Tryz.func132,Tryz.ntmps132
 go_wp2_with fail
 refine wp_region_two (T:=fun _ => True) (S:=fun _ => True) (n:=99) (by kernel_rfl) ?_
 have hT:True:=trivial
 have hS:True:=trivial
 refine tk 0 3 hT hS ?_
 refine tk 1 4 hT hS ?_
 refine tk 2 5 hT hS ?_
 refine tk 3 6 hT hS ?_
 refine tk 4 7 hT hS ?_
 refine tk 5 8 hT hS ?_
 refine tk 6 9 hT hS ?_
 refine tk 7 10 hT hS ?_
 refine tk 8 11 hT hS ?_
 refine tk 9 12 hT hS ?_
 try simp only [xq]
 refine two_one 10 rfl (by kernel_rfl) ?_
 intro K hK
 go_simp
 refine hK.out _ _ trivial (fun _ _ => trivial) ?_
 clear hK K
 try simp only [xq]
 refine two_done (by kernel_rfl) ?_ _
 clear hT hS
 go_wp2_with fail
 refine bodyPost_ret (v:=txtsV b) (by simp [results,Tryz.results132,go_sem,txtsV]) rfl ⟨rfl,(((Below.refl _ _).alloc (Nat.le_refl _) _).drew)⟩
end
end Go.Proofs.YtdacanghbepjpaaGreatDoor

/- Numbers behind a letter, written and read; acks as bytes: walked. Numbers behind a letter, read: walked. Acks as bytes: walked. A batch's bytes: walked. A batch's bytes read back: walked. -/
import Derived.Test.YtdacanghbepjpaaGreatDoorEdEnc
import Derived.Test.YtdacanghbepjpaaGreatDoorM1
import Derived.Test.YtdacanghbepjpaaGreatDoorHlShelf
import Derived.Test.YtdacanghbepjpaaGreatDoorM3
import Derived.Test.YtdacanghbepjpaaGreatDoorSink2
import Derived.Test.YtdacanghbepjpaaGreatDoorSpC
import Derived.Test.YtdacanghbepjpaaGreatDoorDmP
import Derived.Test.YtdacanghbepjpaaGreatDoorHlR
import Derived.Test.YtdacanghbepjpaaGreatDoorM8
import Derived.Test.YtdacanghbepjpaaGreatDoorEdRead
namespace Go.Proofs.YtdacanghbepjpaaGreatDoor
set_option linter.unusedSimpArgs false
set_option linter.unusedVariables false
set_option maxRecDepth 100000
open Go.RowKit
theorem record_any (n:Int) (w:World):Calls Tryz.prog 87 #[.int .i64 n] w fun e w' => e=.returned (.bool (decide (Po.RecOk n)))∧w=w':=by
 by_cases h:Po.RecOk n
 · have h1:n≥0:=h.1
   have h2:=h.2
   rw [decide_eq_true h]
   clear h
   go_enter Tryz.func87,Tryz.ntmps87
   go_wp2_with fail
   go_ret
   exact ⟨rfl,rfl⟩
 · rw [decide_eq_false h]
   by_cases h1:n≥0
   · have h2:¬ n≤2147483647:=fun e => h ⟨h1,e⟩
     clear h
     go_enter Tryz.func87,Tryz.ntmps87
     go_wp2_with fail
     go_ret
     exact ⟨rfl,rfl⟩
   · clear h
     go_enter Tryz.func87,Tryz.ntmps87
     go_wp2_with fail
     go_ret
     exact ⟨rfl,rfl⟩
theorem host_any (n:Int) (w:World):Calls Tryz.prog 86 #[.int .i64 n] w fun e w' => e=.returned (.bool (decide (Po.HostOk n)))∧w=w':=by
 by_cases h:Po.HostOk n
 · have h1:n≥0:=h.1
   have h2:=h.2
   rw [decide_eq_true h]
   clear h
   go_enter Tryz.func86,Tryz.ntmps86
   go_wp2_with fail
   go_ret
   exact ⟨rfl,rfl⟩
 · rw [decide_eq_false h]
   by_cases h1:n≥0
   · have h2:¬ n<4:=fun e => h ⟨h1,e⟩
     clear h
     go_enter Tryz.func86,Tryz.ntmps86
     go_wp2_with fail
     go_ret
     exact ⟨rfl,rfl⟩
   · clear h
     go_enter Tryz.func86,Tryz.ntmps86
     go_wp2_with fail
     go_ret
     exact ⟨rfl,rfl⟩
def putsB (L:ByteArray) (a b c:Int):Nat→ByteArray
 | 0 => L
 | 1 => L++pnB a
 | 2 => L++pnB a++pnB b
 | _ => L++pnB a++pnB b++pnB c
theorem putsB_size (L:ByteArray) (hL:L.size≤10) {a b c:Int} (ha:a<9223372036854775808) (hb:b<9223372036854775808) (hc:c<9223372036854775808) (i:Nat):(putsB L a b c i).size≤37:=by
 have h1:=pnB_size ha
 have h2:=pnB_size hb
 have h3:=pnB_size hc
 match i with
 | 0 => show L.size≤37;omega
 | 1 => show (L++pnB a).size≤37;rw [ByteArray.size_append];omega
 | 2 => show (L++pnB a++pnB b).size≤37;rw [ByteArray.size_append,ByteArray.size_append];omega
 | _+3 => show (L++pnB a++pnB b++pnB c).size≤37;rw [ByteArray.size_append,ByteArray.size_append,ByteArray.size_append];omega
theorem putsB_list (c:UInt8) (a b d:Int):putsB ⟨#[c]⟩ a b d 3=⟨(c::(Ed.pn a++(Ed.pn b++Ed.pn d))).toArray⟩:=by
 unfold putsB pnB
 apply bytes_ext
 simp
set_option maxHeartbeats 2000000 in
theorem puts_any (L:ByteArray) (hL:L.size≤10) (a b c:Int) (ha:0≤a∧a<9223372036854775808) (hb:0≤b∧b<9223372036854775808) (hc:0≤c∧c<9223372036854775808) (w:World) (g:Nat) (hg:g<w.heap.size)
  (k0:w.cell? ⟨g,0,none⟩=some (.int .i64 a)) (k1:w.cell? ⟨g,1,none⟩=some (.int .i64 b)) (k2:w.cell? ⟨g,2,none⟩=some (.int .i64 c)) :
  Calls Tryz.prog 96 #[.string L,.slice (some ⟨g,0,none⟩) 3 3] w fun e w' => e=.returned (.string (putsB L a b c 3))∧Below w.heap.size w w':=by
 have HP:=Lib.hid (fun (n:Int) (W:World) (h:0≤n∧n<9223372036854775808) => putP_any n W h.1 h.2)
 have HA:=Lib.hid ha
 have HB:=Lib.hid hb
 have HC:=Lib.hid hc
 have HSZ:=Lib.hid (putsB_size L hL ha.2 hb.2 hc.2)
 have HPA:=Lib.hid (pnB_size ha.2)
 have HPB:=Lib.hid (pnB_size hb.2)
 have HPC:=Lib.hid (pnB_size hc.2)
 have HK:=Lib.hid (fun (W:World) (hW:Below w.heap.size w W) => show W.cell? ⟨g,0,none⟩=some (.int .i64 a)∧W.cell? ⟨g,1,none⟩=some (.int .i64 b)∧W.cell? ⟨g,2,none⟩=some (.int .i64 c) from
  ⟨(hW.cell (p:=⟨g,0,none⟩) hg).trans k0,(hW.cell (p:=⟨g,1,none⟩) hg).trans k1,(hW.cell (p:=⟨g,2,none⟩) hg).trans k2⟩)
 clear ha hb hc k0 k1 k2 hL
 go_enter Tryz.func96,Tryz.ntmps96
 go_wp2_with fail
 go_loopw [0,9] (fun v0 v9 wr => ∃ i:Nat,v9=.int .i64 i∧i≤3∧v0=.string (putsB L a b c i)∧Below w.heap.size w wr) (fun _ v9 _ => 3-(intOf v9).toNat)
 case atStart => exact ⟨0,rfl,by omega,rfl,Below.refl _ _⟩
 case round =>
  obtain ⟨i,rfl,hi,rfl,hbw⟩:=hrel
  have HBW:=Lib.hid hbw
  obtain ⟨k0,k1,k2⟩:=HK.out wr hbw
  clear hbw
  have hi4:i=0∨i=1∨i=2∨i=3:=by omega
  have hz:=HSZ.out i
  rcases hi4 with rfl | rfl | rfl | rfl
  · clear k1 k2
    obtain ⟨S,hS⟩:∃ S,S=putsB L a b c 0:=⟨_,rfl⟩
    rw [← hS] at hz ⊢
    have HE:=Lib.hid (show putsB L a b c 1=S++pnB a by rw [hS];rfl)
    have hzz:S.size+(pnB a).size≤100:=by have:=HPA.out;omega
    clear hS
    go_wp2_with fail
    refine (HP.out a wr HA.out).mono ?_
    rintro e w1 ⟨rfl,hb1⟩
    have HB1:=Lib.hid (HBW.out.trans (hb1.mono HBW.out.size))
    clear hb1 k0
    go_wp2_with fail
    go_roundw
    case rel => exact ⟨1,rfl,by omega,by rw [HE.out],HB1.out⟩
    case measure => simp [intOf]
  · clear k0 k2
    obtain ⟨S,hS⟩:∃ S,S=putsB L a b c 1:=⟨_,rfl⟩
    rw [← hS] at hz ⊢
    have HE:=Lib.hid (show putsB L a b c 2=S++pnB b by rw [hS];rfl)
    have hzz:S.size+(pnB b).size≤100:=by have:=HPB.out;omega
    clear hS
    go_wp2_with fail
    refine (HP.out b wr HB.out).mono ?_
    rintro e w1 ⟨rfl,hb1⟩
    have HB1:=Lib.hid (HBW.out.trans (hb1.mono HBW.out.size))
    clear hb1 k1
    go_wp2_with fail
    go_roundw
    case rel => exact ⟨2,rfl,by omega,by rw [HE.out],HB1.out⟩
    case measure => simp [intOf]
  · clear k0 k1
    obtain ⟨S,hS⟩:∃ S,S=putsB L a b c 2:=⟨_,rfl⟩
    rw [← hS] at hz ⊢
    have HE:=Lib.hid (show putsB L a b c 3=S++pnB c by rw [hS];rfl)
    have hzz:S.size+(pnB c).size≤100:=by have:=HPC.out;omega
    clear hS
    go_wp2_with fail
    refine (HP.out c wr HC.out).mono ?_
    rintro e w1 ⟨rfl,hb1⟩
    have HB1:=Lib.hid (HBW.out.trans (hb1.mono HBW.out.size))
    clear hb1 k2
    go_wp2_with fail
    go_roundw
    case rel => exact ⟨3,rfl,by omega,by rw [HE.out],HB1.out⟩
    case measure => simp [intOf]
  · clear k0 k1 k2
    go_wp2_with fail
    go_ret
    exact ⟨rfl,HBW.out⟩
end Go.Proofs.YtdacanghbepjpaaGreatDoor
namespace Go.Proofs.YtdacanghbepjpaaGreatDoor
set_option linter.unusedSimpArgs false
set_option linter.unusedVariables false
set_option maxRecDepth 100000
open Go.RowKit
theorem nums_snoc:∀ (i:Nat) (s:Po.Str),Po.nums (i+1) s=match Po.nums i s with
  | none => none
  | some (l,r) => match Var.get r 0 with
   | none => none
   | some (n,p) => some (l++[n],r.drop p)
 | 0,s => by
  simp only [Po.nums]
  cases Var.get s 0 with
  | none => rfl
  | some x => rfl
 | i+1,s => by
  rw [Po.nums]
  rw [show Po.nums (i+1) s=(match Var.get s 0 with
   | none => none
   | some (n,p) => match Po.nums i (s.drop p) with
    | none => none
    | some (l,r) => some (n::l,r)) from rfl]
  cases Var.get s 0 with
  | none => rfl
  | some x =>
   obtain ⟨n,p⟩:=x
   simp only
   rw [nums_snoc i (s.drop p)]
   cases Po.nums i (s.drop p) with
   | none => rfl
   | some y =>
    obtain ⟨l,r⟩:=y
    simp only
    cases Var.get r 0 with
    | none => rfl
    | some z => rfl
theorem nums_none:∀ (i k:Nat) (s:Po.Str),Po.nums i s=none→Po.nums (i+k) s=none
 | i,0,s,h => h
 | i,k+1,s,h => by
  rw [← Nat.add_assoc,nums_snoc,nums_none i k s h]
def numsC (c:UInt8) (s:Po.Str):Option (List Nat×Po.Str):=if s[0]?=some c then Po.nums 3 (s.drop 1) else none
theorem prefix_one (s:List UInt8) (c:UInt8):Lib.hasPrefix s [c]=decide (s[0]?=some c):=by
 cases s with
 | nil => simp [Lib.hasPrefix]
 | cons x r =>
  by_cases h:x=c
  · subst h;simp [Lib.hasPrefix,List.isPrefixOf]
  · have h2:(c == x)=false:=by rw [beq_eq_false_iff_ne];exact fun e => h e.symm
    simp [Lib.hasPrefix,List.isPrefixOf,h,h2]
set_option maxHeartbeats 4000000 in
theorem gets_any (s:ByteArray) (hs:s.size≤maxLen) (c:UInt8) (g:Nat) (pa:Nat→Addr) (w:World) (I:Nat→List Nat→World→Prop) (h0:I 0 [] w)
  (hset:∀ i ns (n:Nat) W,i<3→n<9223372036854775808→I i ns W→I (i+1) (ns++[n]) (W.setCell (pa i) (.int .i64 n)))
  (hdr:∀ i ns W,I i ns W→I i ns W.drew)
  (hcell:∀ i ns W,I i ns W→∀ k,k<3→W.cell? ⟨g,k,none⟩=some (.pointer (some (pa k)))∧(∃ u,W.cell? (pa k)=some u)∧W.frozen? (pa k)=false) :
  Calls Tryz.prog 85 #[.string s,.string ⟨#[c]⟩,.slice (some ⟨g,0,none⟩) 3 3] w fun e w' =>
   (∃ ns r,numsC c s.data.toList=some (ns,r)∧e=.returned (.tuple #[.string ⟨r.toArray⟩,.bool true])∧I 3 ns w')∨(numsC c s.data.toList=none∧e=.returned (.tuple #[.string ⟨#[]⟩,.bool false])∧∃ i ns,I i ns w'):=by
 have HCP:=Lib.hid (Tryz.strings_CutPrefix s ⟨#[c]⟩ w)
 have hpre:=prefix_one s.data.toList c
 have e1:(⟨#[c]⟩:ByteArray).data.toList=[c]:=rfl
 rw [e1] at HCP
 have HG:=Lib.hid (fun (R:ByteArray) (W:World) (h:R.size≤maxLen) => get_any R 0 W h (by omega))
 have HI0:=Lib.hid h0
 have HSET:=Lib.hid hset
 have HDR:=Lib.hid hdr
 have HCE:=Lib.hid hcell
 have HSZ:=Lib.hid hs
 clear h0 hset hdr hcell hs e1
 by_cases hc:s.data.toList[0]?=some c
 case neg =>
  have hp:Lib.hasPrefix s.data.toList [c]=false:=by rw [hpre];exact decide_eq_false hc
  have ht:Lib.trimPrefix s.data.toList [c]=s.data.toList:=by unfold Lib.trimPrefix;rw [hp];rfl
  have hn:numsC c s.data.toList=none:=by unfold numsC;rw [if_neg hc]
  rw [hp,ht] at HCP
  have es:(⟨s.data.toList.toArray⟩:ByteArray)=s:=by cases s;simp
  rw [es] at HCP
  have HN:=Lib.hid hn
  have hc0:=(HCE.out 0 [] w HI0.out 0 (by omega)).1
  obtain ⟨q,hq⟩:∃ q,q=Var.get s.data.toList 0:=⟨_,rfl⟩
  have hg:=HG.out s w HSZ.out
  rw [← hq] at hg
  have HGS:=Lib.hid hg
  clear hp ht hn es hpre hq hg hc HG
  go_enter Tryz.func85,Tryz.ntmps85
  go_wp2_with fail
  refine HCP.out.mono ?_
  rintro e w1 ⟨rfl,rfl⟩
  go_wp2_with fail
  go_loopw [6,7,21] (fun v6 v7 v21 wr => v6=.string s∧v7=.bool false∧v21=.int .i64 0∧wr=w1) (fun _ _ _ _ => 0)
  case atStart => exact ⟨rfl,rfl,rfl,rfl⟩
  case round =>
   obtain ⟨rfl,rfl,rfl,rfl⟩:=hrel
   go_wp2_with fail
   refine HGS.out.mono ?_
   rintro e w2 ⟨rfl,rfl⟩
   cases q with
   | none =>
    unfold gotE
    go_wp2_with fail
    refine bodyPost_ret (v:=.tuple #[.string ⟨#[]⟩,.bool false]) (by simp [results,Tryz.results85,go_sem]) rfl ?_
    exact .inr ⟨HN.out,rfl,0,[],HI0.out⟩
   | some y =>
    obtain ⟨n,p⟩:=y
    unfold gotE
    go_wp2_with fail
    refine bodyPost_ret (v:=.tuple #[.string ⟨#[]⟩,.bool false]) (by simp [results,Tryz.results85,go_sem]) rfl ?_
    exact .inr ⟨HN.out,rfl,0,[],HI0.out⟩
 case pos =>
  have hp:Lib.hasPrefix s.data.toList [c]=true:=by rw [hpre];exact decide_eq_true hc
  have ht:Lib.trimPrefix s.data.toList [c]=s.data.toList.drop 1:=by unfold Lib.trimPrefix;rw [hp];rfl
  rw [hp,ht] at HCP
  obtain ⟨R0,hR0⟩:∃ R0:ByteArray,R0=⟨(s.data.toList.drop 1).toArray⟩:=⟨_,rfl⟩
  rw [← hR0] at HCP
  have hRd:R0.data.toList=s.data.toList.drop 1:=by rw [hR0]
  have hRz:R0.size≤maxLen:=by
   have h1:R0.size=R0.data.toList.length:=by simp
   have h2:s.size=s.data.toList.length:=by simp
   have h3:=HSZ.out
   rw [h1,hRd,List.length_drop]
   omega
  have HR0:=Lib.hid (show Po.nums 0 (s.data.toList.drop 1)=some ([],R0.data.toList)∧R0.size≤maxLen from ⟨by rw [hRd];rfl,hRz⟩)
  have HNC:=Lib.hid (show numsC c s.data.toList=Po.nums 3 (s.data.toList.drop 1) from by unfold numsC;rw [if_pos hc])
  obtain ⟨S,hS⟩:∃ S,S=s.data.toList.drop 1:=⟨_,rfl⟩
  rw [← hS] at HR0 HNC
  clear hp ht hpre hc hR0 hRd hRz hS
  go_enter Tryz.func85,Tryz.ntmps85
  go_wp2_with fail
  refine HCP.out.mono ?_
  rintro e w1 ⟨rfl,rfl⟩
  clear HCP
  go_wp2_with fail
  go_loopw [6,7,21] (fun v6 v7 v21 wr => ∃ (i:Nat) (ns:List Nat) (R:ByteArray),v6=.string R∧v7=.bool true∧v21=.int .i64 i∧i≤3∧Po.nums i S=some (ns,R.data.toList)∧R.size≤maxLen∧I i ns wr) (fun _ _ v21 _ => 3-(intOf v21).toNat)
  case atStart => exact ⟨0,[],R0,rfl,rfl,rfl,by omega,HR0.out.1,HR0.out.2,HI0.out⟩
  case round =>
   obtain ⟨i,ns,R,rfl,rfl,rfl,hi,hnu,hRz,hIw⟩:=hrel
   have HNU:=Lib.hid hnu
   have HIW:=Lib.hid hIw
   have HRZ:=Lib.hid hRz
   by_cases hlt:i<3
   · have hlt2:(i:Int)<3:=by omega
     have hc0:=(HCE.out i ns wr hIw i hlt).1
     have hg:=HG.out R wr hRz
     obtain ⟨q,hq⟩:∃ q,q=Var.get R.data.toList 0:=⟨_,rfl⟩
     rw [← hq] at hg
     have HGS:=Lib.hid hg
     have HQ:=Lib.hid hq
     clear hnu hIw hRz hg hq
     go_wp2_with fail
     refine HGS.out.mono ?_
     rintro e w2 ⟨rfl,rfl⟩
     clear HGS
     cases q with
     | none =>
      have hn3:Po.nums 3 S=none:=by
       have h1:Po.nums (i+1) S=none:=by rw [nums_snoc,HNU.out];simp only;rw [← HQ.out]
       have:=nums_none (i+1) (2-i) S h1
       rwa [show i+1+(2-i)=3 by omega] at this
      have HN3:=Lib.hid hn3
      clear hn3
      unfold gotE
      go_wp2_with fail
      refine bodyPost_ret (v:=.tuple #[.string ⟨#[]⟩,.bool false]) (by simp [results,Tryz.results85,go_sem]) rfl ?_
      exact .inr ⟨by rw [HNC.out,HN3.out],rfl,i,ns,HIW.out⟩
     | some y =>
      obtain ⟨n,p⟩:=y
      obtain ⟨b1,b2,_,_,b5⟩:=Var.get_back HQ.out.symm
      have hsz:R.size=R.data.toList.length:=by simp
      rw [← hsz] at b1
      have hpz:(p:Int)≤R.size:=by omega
      have hp0:(0:Int)≤p:=by omega
      rw [Var.pow9] at b5
      have HB5:=Lib.hid b5
      have HNEXT:=Lib.hid (show Po.nums (i+1) S=some (ns++[n],(R.extract p R.size).data.toList)∧(R.extract p R.size).size≤maxLen from by
       refine ⟨?_,?_⟩
       · rw [nums_snoc,HNU.out]
         simp only
         rw [← HQ.out]
         simp only
         rw [ByteArray.data_extract,Array.toList_extract,List.extract_eq_take_drop]
         congr 2
         rw [List.take_of_length_le]
         rw [List.length_drop,hsz]
         exact Nat.le_refl _
       · rw [ByteArray.size_extract]
         have:=HRZ.out
         omega)
      clear hsz b2 b5
      unfold gotE
      go_wp2_with fail
      refine wp_region_two (T:=fun _ => True) (S:=fun _ => True) (n:=99) (by kernel_rfl) ?_
      obtain ⟨y1,hy1⟩:∃ y1,y1=wr.drew:=⟨_,rfl⟩
      rw [← hy1]
      have HI1:=Lib.hid (show I i ns y1 by rw [hy1];exact HDR.out _ _ _ HIW.out)
      have hS:True:=trivial
      have hT:True:=trivial
      obtain ⟨_,⟨u9,hu9⟩,hf9⟩:=HCE.out i ns y1 HI1.out i hlt
      clear hy1
      refine tk 0 37 hT hS ?_
      refine tk 1 38 hT hS ?_
      refine tk 2 39 hT hS ?_
      refine tk 3 40 hT hS ?_
      refine tk 4 41 hT hS ?_
      refine tk 5 42 hT hS ?_
      try simp only [xq]
      refine two_one 6 rfl (by kernel_rfl) ?_
      intro K hK
      go_simp
      obtain ⟨y2,hy2⟩:∃ y2,y2=y1.setCell (pa i) (.int .i64 n):=⟨_,rfl⟩
      rw [← hy2]
      have HI2:=Lib.hid (show I (i+1) (ns++[n]) y2 by rw [hy2];exact HSET.out i ns n y1 hlt HB5.out HI1.out)
      refine hK.out _ _ hT (fun _ _ => hS) ?_
      clear hK K hy2 hu9 hf9
      try simp only [xq]
      refine tk 7 6 hT hS ?_
      try simp only [xq]
      refine two_done (by kernel_rfl) ?_ _
      clear hT hS
      go_wp2_with fail
      go_roundw
      case rel => exact ⟨i+1,ns++[n],_,rfl,rfl,by go_num,by omega,HNEXT.out.1,HNEXT.out.2,HI2.out⟩
      case measure => simp [intOf];omega
   · obtain rfl:i=3:=by omega
     go_wp2_with fail
     refine bodyPost_ret (v:=.tuple #[.string R,.bool true]) (by simp [results,Tryz.results85,go_sem]) rfl ?_
     refine .inl ⟨ns,R.data.toList,by rw [HNC.out,HNU.out],?_,HIW.out⟩
     rw [show (⟨R.data.toList.toArray⟩:ByteArray)=R by cases R;simp]
end Go.Proofs.YtdacanghbepjpaaGreatDoor
namespace Go.Proofs.YtdacanghbepjpaaGreatDoor
set_option linter.unusedSimpArgs false
set_option linter.unusedVariables false
set_option maxRecDepth 100000
open Go.RowKit
def ackV (h f n:Int):Value:=.agg #[.int .i64 h,.int .i64 f,.int .i64 n]
def ackB (h f n:Int):ByteArray:=⟨(Po.ackS h f (n-f)).toArray⟩
open Classical in
noncomputable def encAck (h f n:Int):ByteArray×Int:=if Po.AckOk h f n then (ackB h f n,0) else (⟨#[]⟩,2)
set_option maxHeartbeats 4000000 in
theorem encAck_any (h f n:Int) (w:World):Calls Tryz.prog 31 #[ackV h f n] w fun e w' => e=.returned (.tuple #[.string (encAck h f n).1,.int .i64 (encAck h f n).2])∧Below w.heap.size w w':=by
 unfold ackV
 obtain ⟨q,hq⟩:∃ q,q=w.heap.size:=⟨_,rfl⟩
 obtain ⟨w1,hw1⟩:∃ w1,w1=w.alloc (.cells #[.int .i64 h,.int .i64 f,.int .i64 n] 51 (0,0)):=⟨_,rfl⟩
 have hb1:Below w.heap.size w w1:=by rw [hw1];exact (Below.refl _ _).alloc (Nat.le_refl _) _
 have hk1:Blk w1 q 51 #[.int .i64 h,.int .i64 f,.int .i64 n]:=by rw [hw1,hq];exact Blk.alloc_new w _ _
 have HB1:=Lib.hid hb1
 have k0:=hk1.cell 0
 have k1:=hk1.cell 1
 have k2:=hk1.cell 2
 simp only [List.getElem?_toArray,List.getElem?_cons_zero,List.getElem?_cons_succ] at k0 k1 k2
 have HW1:=Lib.hid hw1
 have hno:¬ Po.AckOk h f n→encAck h f n=(⟨#[]⟩,2):=fun e => by unfold encAck;rw [if_neg e]
 have hyes:Po.AckOk h f n→encAck h f n=(ackB h f n,0):=fun e => by unfold encAck;rw [if_pos e]
 have HH:=Lib.hid (fun W:World => host_any h W)
 have HF:=Lib.hid (fun W:World => record_any f W)
 have HN:=Lib.hid (fun W:World => record_any n W)
 clear hb1 hk1 hw1
 by_cases a1:Po.HostOk h
 case neg =>
  rw [decide_eq_false a1] at HH
  have HNO:=Lib.hid (hno fun e => a1 e.host)
  clear hno hyes a1
  go_enter Tryz.func31,Tryz.ntmps31
  go_wp2_with fail
  rw [← HW1.out,← hq]
  clear hq
  refine (HH.out w1).mono ?_
  rintro e w2 ⟨rfl,rfl⟩
  go_wp2_with fail
  refine bodyPost_ret (v:=.tuple #[.string ⟨#[]⟩,.int .i64 2]) (by simp [results,Tryz.results31,go_sem]) rfl ?_
  exact ⟨by rw [HNO.out],HB1.out⟩
 case pos =>
 rw [decide_eq_true a1] at HH
 by_cases a2:Po.RecOk f
 case neg =>
  rw [decide_eq_false a2] at HF
  have HNO:=Lib.hid (hno fun e => a2 e.first)
  clear hno hyes a1 a2
  go_enter Tryz.func31,Tryz.ntmps31
  go_wp2_with fail
  rw [← HW1.out,← hq]
  clear hq
  refine (HH.out w1).mono ?_
  rintro e w2 ⟨rfl,rfl⟩
  go_wp2_with fail
  refine (HF.out w1).mono ?_
  rintro e w2 ⟨rfl,rfl⟩
  go_wp2_with fail
  refine bodyPost_ret (v:=.tuple #[.string ⟨#[]⟩,.int .i64 2]) (by simp [results,Tryz.results31,go_sem]) rfl ?_
  exact ⟨by rw [HNO.out],HB1.out⟩
 case pos =>
 rw [decide_eq_true a2] at HF
 by_cases a3:n<f
 case pos =>
  have HNO:=Lib.hid (hno fun e => by have:=e.le;omega)
  clear hno hyes a1 a2
  go_enter Tryz.func31,Tryz.ntmps31
  go_wp2_with fail
  rw [← HW1.out,← hq]
  clear hq
  refine (HH.out w1).mono ?_
  rintro e w2 ⟨rfl,rfl⟩
  go_wp2_with fail
  refine (HF.out w1).mono ?_
  rintro e w2 ⟨rfl,rfl⟩
  go_wp2_with fail
  refine bodyPost_ret (v:=.tuple #[.string ⟨#[]⟩,.int .i64 2]) (by simp [results,Tryz.results31,go_sem]) rfl ?_
  exact ⟨by rw [HNO.out],HB1.out⟩
 case neg =>
 by_cases a4:Po.RecOk n
 case neg =>
  rw [decide_eq_false a4] at HN
  have HNO:=Lib.hid (hno fun e => a4 e.next)
  clear hno hyes a1 a2 a4
  go_enter Tryz.func31,Tryz.ntmps31
  go_wp2_with fail
  rw [← HW1.out,← hq]
  clear hq
  refine (HH.out w1).mono ?_
  rintro e w2 ⟨rfl,rfl⟩
  go_wp2_with fail
  refine (HF.out w1).mono ?_
  rintro e w2 ⟨rfl,rfl⟩
  go_wp2_with fail
  refine (HN.out w1).mono ?_
  rintro e w2 ⟨rfl,rfl⟩
  go_wp2_with fail
  refine bodyPost_ret (v:=.tuple #[.string ⟨#[]⟩,.int .i64 2]) (by simp [results,Tryz.results31,go_sem]) rfl ?_
  exact ⟨by rw [HNO.out],HB1.out⟩
 case pos =>
  rw [decide_eq_true a4] at HN
  have HYES:=Lib.hid (hyes ⟨a1,a2,by omega,a4⟩)
  have hz:=putsB_list 65 h f (n-f)
  have HP:=Lib.hid (fun (W:World) (g:Nat) => puts_any ⟨#[65]⟩ (show 1≤10 by decide) h f (n-f) ⟨a1.1,by have:=a1.2;omega⟩ ⟨a2.1,by have:=a2.2;omega⟩ ⟨by omega,by have:=a4.2;have:=a2.1;omega⟩ W g)
  rw [hz] at HP
  have hfn:-9223372036854775808≤n-f:=by omega
  have hfn2:n-f<9223372036854775808:=by have:=a4.2;have:=a2.1;omega
  have HLE:=Lib.hid (show Po.ackS h f (n-f)=65::(Ed.pn h++(Ed.pn f++Ed.pn (n-f))) from rfl)
  clear hno hyes a1 a2 a4
  go_enter Tryz.func31,Tryz.ntmps31
  go_wp2_with fail
  rw [← HW1.out,← hq]
  clear hq
  refine (HH.out w1).mono ?_
  rintro e w2 ⟨rfl,rfl⟩
  go_wp2_with fail
  refine (HF.out w1).mono ?_
  rintro e w2 ⟨rfl,rfl⟩
  go_wp2_with fail
  refine (HN.out w1).mono ?_
  rintro e w2 ⟨rfl,rfl⟩
  go_wp2_with fail
  obtain ⟨g,hg⟩:∃ g,g=w1.heap.size:=⟨_,rfl⟩
  rw [← hg]
  obtain ⟨w2,hw2⟩:∃ w2,w2=w1.alloc (.cells #[.int .i64 h,.int .i64 f,.int .i64 (n-f)] 3 (0,0)):=⟨_,rfl⟩
  rw [← hw2]
  have hb2:Below w1.heap.size w1 w2:=by rw [hw2];exact (Below.refl _ _).alloc (Nat.le_refl _) _
  have hk2:Blk w2 g 3 #[.int .i64 h,.int .i64 f,.int .i64 (n-f)]:=by rw [hw2,hg];exact Blk.alloc_new w1 _ _
  have c0:=hk2.cell 0
  have c1:=hk2.cell 1
  have c2:=hk2.cell 2
  simp only [List.getElem?_toArray,List.getElem?_cons_zero,List.getElem?_cons_succ] at c0 c1 c2
  have hlt:=hk2.lt
  have HB2:=Lib.hid (HB1.out.trans (hb2.mono HB1.out.size))
  clear hg hw2 hk2 hb2
  refine (HP.out w2 g hlt c0 c1 c2).mono ?_
  rintro e w3 ⟨rfl,hb3⟩
  have HB3:=Lib.hid (HB2.out.trans (hb3.mono HB2.out.size))
  clear hb3 c0 c1 c2 hlt
  go_wp2_with fail
  refine bodyPost_ret (v:=.tuple #[.string (ackB h f n),.int .i64 0]) (by simp [results,Tryz.results31,go_sem];unfold ackB;rw [HLE.out]) rfl ?_
  exact ⟨by rw [HYES.out],HB3.out⟩
theorem Blk.set_ot {w:World} {b:Nat} {t:TypeId} {cs:Array Value} (h:Blk w b t cs) (b' i:Nat) (u:Value) (hne:b≠b'):Blk (w.setCell ⟨b',i,none⟩ u) b t cs:=by
 unfold Blk at *
 rw [Below.heap_setCell _ _ _ _ hne,h]
theorem alloc_size (w:World) (o:Obj):(w.alloc o).heap.size=w.heap.size+1:=Array.size_push _
theorem decAck_nums (s:Po.Str):Po.decAck s=match numsC 65 s with
  | some ([a,b,c],[]) => if a<4∧b≤2147483647∧(c:Int)≤2147483647-(b:Int) then some ((a:Int),(b:Int),(b:Int)+(c:Int)) else none
  | _ => none:=by
 unfold Po.decAck numsC
 by_cases h:s[0]?=some 65
 · rw [if_pos h,if_pos h]
   rfl
 · rw [if_neg h,if_neg h]
def ackVs (ns:List Nat):Array Value:=#[.int .i64 (ns.getD 0 0:Nat),.int .i64 (ns.getD 1 0:Nat),.int .i64 (ns.getD 2 0:Nat)]
theorem ackVs_set {ns:List Nat} (i n:Nat) (h:ns.length=i) (hi:i<3):(ackVs ns).setIfInBounds i (.int .i64 (n:Int))=ackVs (ns++[n]):=by
 match ns,h with
 | [],rfl => simp [ackVs]
 | [a],rfl => simp [ackVs]
 | [a,b],rfl => simp [ackVs]
structure AckI (w W:World) (q0 q1 g:Nat) (i:Nat) (ns:List Nat):Prop where
 below:Below w.heap.size w W
 len:ns.length=i
 small:∀ n∈ns,n<9223372036854775808
 res:Blk W q0 51 #[.int .i64 0,.int .i64 0,.int .i64 0]
 blk:Blk W q1 51 (ackVs ns)
 ptr:Blk W g 142 #[.pointer (some ⟨q1,0,none⟩),.pointer (some ⟨q1,1,none⟩),.pointer (some ⟨q1,2,none⟩)]
theorem AckI.drew {w W:World} {q0 q1 g i:Nat} {ns:List Nat} (h:AckI w W q0 q1 g i ns):AckI w W.drew q0 q1 g i ns:=⟨h.below.drew,h.len,h.small,h.res,h.blk,h.ptr⟩
theorem AckI.set {w W:World} {q0 q1 g i:Nat} {ns:List Nat} (h:AckI w W q0 q1 g i ns) (hq:w.heap.size≤q1) (h0:q0≠q1) (hg:g≠q1) {n:Nat} (hi:i<3) (hn:n<9223372036854775808):AckI w (W.setCell ⟨q1,i,none⟩ (.int .i64 n)) q0 q1 g (i+1) (ns++[n]) :=
 ⟨h.below.setCell (p:=⟨q1,i,none⟩) hq _,by rw [List.length_append,h.len];rfl,fun m hm => by
  rcases List.mem_append.1 hm with hm | hm
  · exact h.small m hm
  · rw [List.mem_singleton.1 hm];exact hn,
  h.res.set_ot _ _ _ h0,(by rw [← ackVs_set i n h.len hi];exact h.blk.set i _),h.ptr.set_ot _ _ _ hg⟩
def decAckV (s:Po.Str):Value:=match Po.decAck s with
 | some (h,f,n) => .tuple #[ackV h f n,.int .i64 0]
 | none => .tuple #[ackV 0 0 0,.int .i64 30]
set_option maxHeartbeats 4000000 in
theorem decAck_any (s:ByteArray) (hs:s.size≤maxLen) (w:World):Calls Tryz.prog 23 #[.string s] w fun e w' => e=.returned (decAckV s.data.toList)∧Below w.heap.size w w':=by
 obtain ⟨q0,hq0⟩:∃ q,q=w.heap.size:=⟨_,rfl⟩
 obtain ⟨w1,hw1⟩:∃ w1,w1=w.alloc (.cells #[.int .i64 0,.int .i64 0,.int .i64 0] 51 (0,0)):=⟨_,rfl⟩
 have hb1:Below w.heap.size w w1:=by rw [hw1];exact (Below.refl _ _).alloc (Nat.le_refl _) _
 have hk1:Blk w1 q0 51 #[.int .i64 0,.int .i64 0,.int .i64 0]:=by rw [hw1,hq0];exact Blk.alloc_new w _ _
 obtain ⟨q1,hq1⟩:∃ q,q=w1.heap.size:=⟨_,rfl⟩
 obtain ⟨w2,hw2⟩:∃ w2,w2=w1.alloc (.cells #[.int .i64 0,.int .i64 0,.int .i64 0] 51 (0,0)):=⟨_,rfl⟩
 have hb2:Below w1.heap.size w1 w2:=by rw [hw2];exact (Below.refl _ _).alloc (Nat.le_refl _) _
 have hk2:Blk w2 q1 51 #[.int .i64 0,.int .i64 0,.int .i64 0]:=by rw [hw2,hq1];exact Blk.alloc_new w1 _ _
 obtain ⟨g,hg⟩:∃ q,q=w2.heap.size:=⟨_,rfl⟩
 obtain ⟨w3,hw3⟩:∃ w3,w3=w2.alloc (.cells #[.pointer (some ⟨q1,0,none⟩),.pointer (some ⟨q1,1,none⟩),.pointer (some ⟨q1,2,none⟩)] 142 (0,0)):=⟨_,rfl⟩
 have hb3:Below w2.heap.size w2 w3:=by rw [hw3];exact (Below.refl _ _).alloc (Nat.le_refl _) _
 have hk3:Blk w3 g 142 #[.pointer (some ⟨q1,0,none⟩),.pointer (some ⟨q1,1,none⟩),.pointer (some ⟨q1,2,none⟩)]:=by rw [hw3,hg];exact Blk.alloc_new w2 _ _
 have hle0:w.heap.size≤q0:=by omega
 have hle1:w.heap.size≤q1:=by have:=hb1.size;omega
 have hn01:q0≠q1:=by have:=hk1.lt;omega
 have hng1:g≠q1:=by have:=hk2.lt;omega
 have hi0:AckI w w3 q0 q1 g 0 [] :=
  ⟨(hb1.trans (hb2.mono hb1.size)).trans (hb3.mono (by have:=hb1.size;have:=hb2.size;omega)),rfl,(fun _ h => nomatch h),(hk1.below hb2).below hb3,hk2.below hb3,hk3⟩
 have HG:=Lib.hid (gets_any s hs 65 g (fun k => ⟨q1,k,none⟩) w3 (fun i ns W => AckI w W q0 q1 g i ns) hi0 (fun i ns n W hi hn h => h.set hle1 hn01 hng1 hi hn) (fun i ns W h => h.drew) (fun i ns W h k hk => by
  refine ⟨?_,?_,h.blk.free k⟩
  · rw [h.ptr.cell k]
    match k,hk with
    | 0,_ => rfl
    | 1,_ => rfl
    | 2,_ => rfl
  · rw [h.blk.cell k]
    match k,hk with
    | 0,_ => exact ⟨_,rfl⟩
    | 1,_ => exact ⟨_,rfl⟩
    | 2,_ => exact ⟨_,rfl⟩))
 have HW1:=Lib.hid hw1
 have HW2:=Lib.hid hw2
 have HW3:=Lib.hid hw3
 have HQ:=Lib.hid (show w.heap.size≤q0∧w.heap.size≤q1∧q0≠q1 from ⟨hle0,hle1,hn01⟩)
 have e1:q0+1=q1:=by rw [hq1,hw1,hq0,alloc_size]
 have e2:q1+1=g:=by rw [hg,hw2,hq1,alloc_size]
 clear hb1 hk1 hw1 hb2 hk2 hw2 hb3 hk3 hw3 hi0 hs hng1 hn01
 go_enter Tryz.func23,Tryz.ntmps23
 go_wp2_with fail
 rw [← HW1.out,← hq0,e1,e2,← HW2.out,← HW3.out]
 refine HG.out.mono ?_
 rintro e w4 (⟨ns,r,hn,rfl,hI⟩ | ⟨hn,rfl,i,ns,hI⟩)
 case inr =>
  have HNO:=Lib.hid (show Po.decAck s.data.toList=none by rw [decAck_nums,hn])
  clear hn HG e1 e2 HW1 HW2 HW3 hq0 hq1 hg hle0 hle1
  have c0:=hI.res.cell 0
  have c1:=hI.res.cell 1
  have c2:=hI.res.cell 2
  simp only [List.getElem?_toArray,List.getElem?_cons_zero,List.getElem?_cons_succ] at c0 c1 c2
  have f0:=hI.res.free 0
  have f1:=hI.res.free 1
  have f2:=hI.res.free 2
  have hk8:=(((hI.res).set 0 (.int .i64 0)).set 1 (.int .i64 0)).set 2 (.int .i64 0)
  have hb8:=(((hI.below).setCell (p:=⟨q0,0,none⟩) HQ.out.1 (.int .i64 0)).setCell (p:=⟨q0,1,none⟩) HQ.out.1 (.int .i64 0)).setCell (p:=⟨q0,2,none⟩) HQ.out.1 (.int .i64 0)
  simp only [List.setIfInBounds_toArray,List.set_cons_zero,List.set_cons_succ] at hk8
  have HK8:=Lib.hid hk8
  have HB8:=Lib.hid hb8
  clear hk8 hb8 hI
  go_wp2_with fail
  have r0:=HK8.out.cell 0
  have r1:=HK8.out.cell 1
  have r2:=HK8.out.cell 2
  simp only [List.getElem?_toArray,List.getElem?_cons_zero,List.getElem?_cons_succ] at r0 r1 r2
  refine bodyPost_ret (v:=.tuple #[.agg #[.int .i64 0,.int .i64 0,.int .i64 0],.int .i64 30]) (by simp [results,Tryz.results23,go_sem,r0,r1,r2]) rfl ?_
  exact ⟨by unfold decAckV;rw [HNO.out];rfl,HB8.out⟩
 case inl =>
  have hl:=hI.len
  match ns,hl with
  | [a,b,c],_ =>
  have sa:=hI.small a (by simp)
  have sb:=hI.small b (by simp)
  have sc:=hI.small c (by simp)
  have HD:=decAck_nums s.data.toList
  rw [hn] at HD
  have HH:=Lib.hid (fun W:World => host_any (a:Int) W)
  have HR:=Lib.hid (fun W:World => record_any (b:Int) W)
  clear hn HG e1 e2 HW1 HW2 HW3 hq0 hq1 hg hle0 hle1 hl
  have k0:=hI.blk.cell 0
  have k1:=hI.blk.cell 1
  have k2:=hI.blk.cell 2
  have c0:=hI.res.cell 0
  have c1:=hI.res.cell 1
  have c2:=hI.res.cell 2
  simp only [ackVs,List.getElem?_toArray,List.getElem?_cons_zero,List.getElem?_cons_succ,List.getD_cons_zero,List.getD_cons_succ] at k0 k1 k2 c0 c1 c2
  have f0:=hI.res.free 0
  have f1:=hI.res.free 1
  have f2:=hI.res.free 2
  have fk2:=hI.blk.free 2
  cases r with
  | cons x r =>
   have HNO:=Lib.hid (show Po.decAck s.data.toList=none from HD)
   obtain ⟨R,hR⟩:∃ R:ByteArray,R=⟨(x::r).toArray⟩:=⟨_,rfl⟩
   rw [← hR]
   have hne:R.toList.isEmpty=false:=by rw [Lib.toList_data,hR];rfl
   clear HD HH HR hR
   have hk8:=(((hI.res).set 0 (.int .i64 0)).set 1 (.int .i64 0)).set 2 (.int .i64 0)
   have hb8:=(((hI.below).setCell (p:=⟨q0,0,none⟩) HQ.out.1 (.int .i64 0)).setCell (p:=⟨q0,1,none⟩) HQ.out.1 (.int .i64 0)).setCell (p:=⟨q0,2,none⟩) HQ.out.1 (.int .i64 0)
   simp only [List.setIfInBounds_toArray,List.set_cons_zero,List.set_cons_succ] at hk8
   have HK8:=Lib.hid hk8
   have HB8:=Lib.hid hb8
   clear hk8 hb8 hI
   go_wp2_with fail
   have r0:=HK8.out.cell 0
   have r1:=HK8.out.cell 1
   have r2:=HK8.out.cell 2
   simp only [List.getElem?_toArray,List.getElem?_cons_zero,List.getElem?_cons_succ] at r0 r1 r2
   refine bodyPost_ret (v:=.tuple #[.agg #[.int .i64 0,.int .i64 0,.int .i64 0],.int .i64 30]) (by simp [results,Tryz.results23,go_sem,r0,r1,r2]) rfl ?_
   exact ⟨by unfold decAckV;rw [HNO.out];rfl,HB8.out⟩
  | nil =>
   simp only at HD
   by_cases a1:a<4
   case neg =>
    rw [if_neg (fun e => a1 e.1)] at HD
    have HNO:=Lib.hid HD
    rw [decide_eq_false (fun e:Po.HostOk (a:Int) => a1 (by have:=e.2;omega))] at HH
    clear HD HR a1
    have hk8:=(((hI.res).set 0 (.int .i64 0)).set 1 (.int .i64 0)).set 2 (.int .i64 0)
    have hb8:=(((hI.below).setCell (p:=⟨q0,0,none⟩) HQ.out.1 (.int .i64 0)).setCell (p:=⟨q0,1,none⟩) HQ.out.1 (.int .i64 0)).setCell (p:=⟨q0,2,none⟩) HQ.out.1 (.int .i64 0)
    simp only [List.setIfInBounds_toArray,List.set_cons_zero,List.set_cons_succ] at hk8
    have HK8:=Lib.hid hk8
    have HB8:=Lib.hid hb8
    clear hk8 hb8 hI
    go_wp2_with fail
    refine (HH.out _).mono ?_
    rintro e w5 ⟨rfl,rfl⟩
    go_wp2_with fail
    have r0:=HK8.out.cell 0
    have r1:=HK8.out.cell 1
    have r2:=HK8.out.cell 2
    simp only [List.getElem?_toArray,List.getElem?_cons_zero,List.getElem?_cons_succ] at r0 r1 r2
    refine bodyPost_ret (v:=.tuple #[.agg #[.int .i64 0,.int .i64 0,.int .i64 0],.int .i64 30]) (by simp [results,Tryz.results23,go_sem,r0,r1,r2]) rfl ?_
    exact ⟨by unfold decAckV;rw [HNO.out];rfl,HB8.out⟩
   case pos =>
   rw [decide_eq_true (show Po.HostOk (a:Int) from ⟨by omega,by omega⟩)] at HH
   by_cases a2:b≤2147483647
   case neg =>
    rw [if_neg (fun e => a2 e.2.1)] at HD
    have HNO:=Lib.hid HD
    rw [decide_eq_false (fun e:Po.RecOk (b:Int) => a2 (by have:=e.2;omega))] at HR
    clear HD a1 a2
    have hk8:=(((hI.res).set 0 (.int .i64 0)).set 1 (.int .i64 0)).set 2 (.int .i64 0)
    have hb8:=(((hI.below).setCell (p:=⟨q0,0,none⟩) HQ.out.1 (.int .i64 0)).setCell (p:=⟨q0,1,none⟩) HQ.out.1 (.int .i64 0)).setCell (p:=⟨q0,2,none⟩) HQ.out.1 (.int .i64 0)
    simp only [List.setIfInBounds_toArray,List.set_cons_zero,List.set_cons_succ] at hk8
    have HK8:=Lib.hid hk8
    have HB8:=Lib.hid hb8
    clear hk8 hb8 hI
    go_wp2_with fail
    refine (HH.out _).mono ?_
    rintro e w5 ⟨rfl,rfl⟩
    go_wp2_with fail
    refine (HR.out _).mono ?_
    rintro e w5 ⟨rfl,rfl⟩
    go_wp2_with fail
    have r0:=HK8.out.cell 0
    have r1:=HK8.out.cell 1
    have r2:=HK8.out.cell 2
    simp only [List.getElem?_toArray,List.getElem?_cons_zero,List.getElem?_cons_succ] at r0 r1 r2
    refine bodyPost_ret (v:=.tuple #[.agg #[.int .i64 0,.int .i64 0,.int .i64 0],.int .i64 30]) (by simp [results,Tryz.results23,go_sem,r0,r1,r2]) rfl ?_
    exact ⟨by unfold decAckV;rw [HNO.out];rfl,HB8.out⟩
   case pos =>
   rw [decide_eq_true (show Po.RecOk (b:Int) from ⟨by omega,by omega⟩)] at HR
   have hm1:(-9223372036854775808:Int)≤2147483647-(b:Int):=by omega
   have hm2:(2147483647-(b:Int))<9223372036854775808:=by omega
   by_cases a3:(c:Int)>2147483647-(b:Int)
   case pos =>
    rw [if_neg (fun e => by omega)] at HD
    have HNO:=Lib.hid HD
    clear HD a1 a2
    have hk8:=(((hI.res).set 0 (.int .i64 0)).set 1 (.int .i64 0)).set 2 (.int .i64 0)
    have hb8:=(((hI.below).setCell (p:=⟨q0,0,none⟩) HQ.out.1 (.int .i64 0)).setCell (p:=⟨q0,1,none⟩) HQ.out.1 (.int .i64 0)).setCell (p:=⟨q0,2,none⟩) HQ.out.1 (.int .i64 0)
    simp only [List.setIfInBounds_toArray,List.set_cons_zero,List.set_cons_succ] at hk8
    have HK8:=Lib.hid hk8
    have HB8:=Lib.hid hb8
    clear hk8 hb8 hI
    go_wp2_with fail
    refine (HH.out _).mono ?_
    rintro e w5 ⟨rfl,rfl⟩
    go_wp2_with fail
    refine (HR.out _).mono ?_
    rintro e w5 ⟨rfl,rfl⟩
    go_wp2_with fail
    have r0:=HK8.out.cell 0
    have r1:=HK8.out.cell 1
    have r2:=HK8.out.cell 2
    simp only [List.getElem?_toArray,List.getElem?_cons_zero,List.getElem?_cons_succ] at r0 r1 r2
    refine bodyPost_ret (v:=.tuple #[.agg #[.int .i64 0,.int .i64 0,.int .i64 0],.int .i64 30]) (by simp [results,Tryz.results23,go_sem,r0,r1,r2]) rfl ?_
    exact ⟨by unfold decAckV;rw [HNO.out];rfl,HB8.out⟩
   case neg =>
    rw [if_pos (by omega)] at HD
    have HYES:=Lib.hid HD
    clear HD a1 a2
    have hkx:=hI.blk.set 2 (.int .i64 ((c:Int)+(b:Int)))
    have hkr:=hI.res.set_ot q1 2 (.int .i64 ((c:Int)+(b:Int))) HQ.out.2.2
    have hbx:=hI.below.setCell (p:=⟨q1,2,none⟩) HQ.out.2.1 (.int .i64 ((c:Int)+(b:Int)))
    simp only [ackVs,List.getD_cons_zero,List.getD_cons_succ,List.setIfInBounds_toArray,List.set_cons_zero,List.set_cons_succ] at hkx
    obtain ⟨y1,hy1⟩:∃ y,y=w4.setCell ⟨q1,2,none⟩ (.int .i64 ((c:Int)+(b:Int))):=⟨_,rfl⟩
    rw [← hy1] at hkx hkr hbx
    have HY1:=Lib.hid hy1
    have HKX:=Lib.hid hkx
    have HKR:=Lib.hid hkr
    have HBX:=Lib.hid hbx
    rw [hy1] at hkx hkr
    have z0:=hkx.cell 0
    have z1:=hkx.cell 1
    have z2:=hkx.cell 2
    have x0:=hkr.cell 0
    have x1:=hkr.cell 1
    have x2:=hkr.cell 2
    simp only [List.getElem?_toArray,List.getElem?_cons_zero,List.getElem?_cons_succ] at z0 z1 z2 x0 x1 x2
    have g0:=hkr.free 0
    have g1:=hkr.free 1
    have g2:=hkr.free 2
    clear hkx hkr hbx hy1 hI
    go_wp2_with fail
    refine (HH.out _).mono ?_
    rintro e w5 ⟨rfl,rfl⟩
    go_wp2_with fail
    refine (HR.out _).mono ?_
    rintro e w5 ⟨rfl,rfl⟩
    go_wp2_with fail
    rw [← HY1.out]
    have hk8:=((HKR.out.set 0 (.int .i64 a)).set 1 (.int .i64 b)).set 2 (.int .i64 ((c:Int)+(b:Int)))
    have hb8:=((HBX.out.setCell (p:=⟨q0,0,none⟩) HQ.out.1 (.int .i64 a)).setCell (p:=⟨q0,1,none⟩) HQ.out.1 (.int .i64 b)).setCell (p:=⟨q0,2,none⟩) HQ.out.1 (.int .i64 ((c:Int)+(b:Int)))
    simp only [List.setIfInBounds_toArray,List.set_cons_zero,List.set_cons_succ] at hk8
    have HB8:=Lib.hid hb8
    have r0:=hk8.cell 0
    have r1:=hk8.cell 1
    have r2:=hk8.cell 2
    simp only [List.getElem?_toArray,List.getElem?_cons_zero,List.getElem?_cons_succ] at r0 r1 r2
    clear hk8 hb8
    refine bodyPost_ret (v:=.tuple #[.agg #[.int .i64 a,.int .i64 b,.int .i64 ((c:Int)+(b:Int))],.int .i64 0]) (by simp [results,Tryz.results23,go_sem,r0,r1,r2]) rfl ?_
    refine ⟨?_,HB8.out⟩
    unfold decAckV ackV
    rw [HYES.out]
    simp only
    rw [Int.add_comm (c:Int) (b:Int)]
end Go.Proofs.YtdacanghbepjpaaGreatDoor
namespace Go.Proofs.YtdacanghbepjpaaGreatDoor
set_option linter.unusedSimpArgs false
set_option linter.unusedVariables false
set_option maxRecDepth 100000
open Go.RowKit Go.Maps
theorem rdSp_cells {w:World} {v:Value} {l:List Sp.Span} (h:RdSp w v l):∃ x c,v=.slice x l.length c∧l.length≤c∧∀ (j:Nat) (hj:j<l.length),∃ b off,x=some ⟨b,off,none⟩∧b<w.heap.size ∧
  w.cell? ⟨b,off+j*8,none⟩=some (.int .i64 l[j].trace)∧w.cell? ⟨b,off+j*8+1,none⟩=some (.int .i64 l[j].id)∧w.cell? ⟨b,off+j*8+2,none⟩=some (.int .i64 l[j].parent)∧w.cell? ⟨b,off+j*8+3,none⟩=some (.string l[j].service) ∧
  w.cell? ⟨b,off+j*8+4,none⟩=some (.string l[j].host)∧w.cell? ⟨b,off+j*8+5,none⟩=some (.int .i64 l[j].start)∧w.cell? ⟨b,off+j*8+6,none⟩=some (.int .i64 l[j].dur)∧w.cell? ⟨b,off+j*8+7,none⟩=some (.string l[j].note):=by
 obtain ⟨x,c,e,hc,h⟩:=h
 refine ⟨x,c,e,hc,fun j hj => ?_⟩
 obtain ⟨b,off,e,hb,k⟩:=h j hj
 exact ⟨b,off,e,hb,k 0 _ rfl,k 1 _ rfl,k 2 _ rfl,k 3 _ rfl,k 4 _ rfl,k 5 _ rfl,k 6 _ rfl,k 7 _ rfl⟩
def upB (h f n:Int) (l:List Sp.Span):ByteArray:=⟨(66::(Ed.pn h++(Ed.pn f++(Ed.pn n++Po.bodyT l)))).toArray⟩
theorem tx_le {x:Sp.Span} (h:Sp.May x):(Po.tx x).length≤121:=by
 unfold Po.tx Ed.encT
 have h1:=Sp.enc_len h
 have h2:=pnB_size (n:=(Sp.enc x).length) (by omega)
 have h3:(pnB (Sp.enc x).length).size=(Ed.pn (Sp.enc x).length).length:=by unfold pnB;rw [size_l]
 rw [List.length_append]
 omega
theorem bodyT_le:∀ {l:List Sp.Span},(∀ y∈l,Sp.May y)→(Po.bodyT l).length≤121*l.length
 | [],_ => by simp [Po.bodyT]
 | x::l,h => by
  rw [Po.bodyT_cons,List.length_append,List.length_cons]
  have h1:=tx_le (h x (by simp))
  have h2:=bodyT_le (l:=l) fun y hy => h y (by simp [hy])
  omega
theorem upB_size {h f n:Int} {l:List Sp.Span} (hh:h<9223372036854775808) (hf:f<9223372036854775808) (hn:n<9223372036854775808) (hm:∀ y∈l,Sp.May y):(upB h f n l).size≤28+121*l.length:=by
 have h1:=pnB_size hh
 have h2:=pnB_size hf
 have h3:=pnB_size hn
 have h4:=bodyT_le hm
 unfold pnB at h1 h2 h3
 rw [size_l] at h1 h2 h3
 unfold upB
 rw [size_l]
 simp only [List.length_cons,List.length_append]
 omega
theorem upB_snoc (h f n:Int) (l:List Sp.Span) (x:Sp.Span) (E:ByteArray) (hE:E.data.toList=Sp.enc x):upB h f n l++encTB E=upB h f n (l++[x]):=by
 unfold upB encTB
 rw [hE,Po.bodyT_snoc]
 apply bytes_ext
 simp [Po.tx]
theorem upB_nil (h f n:Int):(⟨(66::(Ed.pn h++(Ed.pn f++Ed.pn n))).toArray⟩:ByteArray)=upB h f n []:=by
 unfold upB
 simp [Po.bodyT]
set_option maxHeartbeats 8000000 in
theorem encBatch_ok (h f:Int) (l:List Sp.Span) (v:Value) (w:World) (hv:RdSp w v l) (hh:Po.HostOk h) (hf:Po.RecOk f) (hfl:Po.RecOk (f+l.length)) (hl:1≤l.length∧l.length≤8) (hm:∀ y∈l,Sp.May y) :
  Calls Tryz.prog 123 #[.agg #[.int .i64 h,.int .i64 f,v]] w fun e w' => e=.returned (.tuple #[.string (batchB h f l),.int .i64 0])∧Below w.heap.size w w':=by
 obtain ⟨x,c,rfl,hc,hx⟩:=rdSp_cells hv
 obtain ⟨n,hn⟩:∃ n,n=l.length:=⟨_,rfl⟩
 have hbb:batchB h f l=upB h f n l:=by rw [hn];rfl
 have HX:=Lib.hid hx
 rw [← hn] at hc hfl hl ⊢
 rw [hbb]
 obtain ⟨q,hq⟩:∃ q,q=w.heap.size:=⟨_,rfl⟩
 obtain ⟨w1,hw1⟩:∃ w1,w1=w.alloc (.cells #[.int .i64 h,.int .i64 f,.slice x n c] 63 (0,0)):=⟨_,rfl⟩
 have hb1:Below w.heap.size w w1:=by rw [hw1];exact (Below.refl _ _).alloc (Nat.le_refl _) _
 have hk1:Blk w1 q 63 #[.int .i64 h,.int .i64 f,.slice x n c]:=by rw [hw1,hq];exact Blk.alloc_new w _ _
 have HB1:=Lib.hid hb1
 have HK1:=Lib.hid hk1
 have k0:=hk1.cell 0
 have k1:=hk1.cell 1
 have k2:=hk1.cell 2
 simp only [List.getElem?_toArray,List.getElem?_cons_zero,List.getElem?_cons_succ] at k0 k1 k2
 have HW1:=Lib.hid hw1
 have HH:=Lib.hid (fun W:World => host_any h W)
 have HF:=Lib.hid (fun W:World => record_any f W)
 have HN:=Lib.hid (fun W:World => record_any (f+n) W)
 rw [decide_eq_true hh] at HH
 rw [decide_eq_true hf] at HF
 rw [decide_eq_true hfl] at HN
 have hz:=putsB_list 66 h f n
 have HP:=Lib.hid (fun (W:World) (g:Nat) => puts_any ⟨#[66]⟩ (show 1≤10 by decide) h f n ⟨hh.1,by have:=hh.2;omega⟩ ⟨hf.1,by have:=hf.2;omega⟩ ⟨by omega,by omega⟩ W g)
 rw [hz,upB_nil] at HP
 have HM:=Lib.hid hm
 have HNL:=Lib.hid hn
 have HSZ:=Lib.hid (fun (k:Nat) => upB_size (h:=h) (f:=f) (n:=n) (l:=l.take k) (by have:=hh.2;omega) (by have:=hf.2;omega) (by omega) fun y hy => hm y (List.mem_of_mem_take hy))
 have hn8:(n:Int)≤8:=by omega
 have hn1:(1:Int)≤n:=by omega
 have hn0:((n:Int) == 0)=false:=by rw [beq_eq_false_iff_ne];omega
 have hf1:=hf.1
 have hf2:=hf.2
 clear hb1 hk1 hw1 hx hbb hz hm hh hf hfl hn hc hv
 go_enter Tryz.func123,Tryz.ntmps123
 go_wp2_with fail
 rw [← HW1.out,← hq]
 clear hq
 refine (HH.out w1).mono ?_
 rintro e w2 ⟨rfl,rfl⟩
 go_wp2_with fail
 refine (HF.out w1).mono ?_
 rintro e w2 ⟨rfl,rfl⟩
 go_wp2_with fail
 refine (HN.out w1).mono ?_
 rintro e w2 ⟨rfl,rfl⟩
 go_wp2_with fail
 obtain ⟨g,hg⟩:∃ g,g=w1.heap.size:=⟨_,rfl⟩
 rw [← hg]
 obtain ⟨w2,hw2⟩:∃ w2,w2=w1.alloc (.cells #[.int .i64 h,.int .i64 f,.int .i64 n] 3 (0,0)):=⟨_,rfl⟩
 rw [← hw2]
 have hb2:Below w1.heap.size w1 w2:=by rw [hw2];exact (Below.refl _ _).alloc (Nat.le_refl _) _
 have hk2:Blk w2 g 3 #[.int .i64 h,.int .i64 f,.int .i64 n]:=by rw [hw2,hg];exact Blk.alloc_new w1 _ _
 have c0:=hk2.cell 0
 have c1:=hk2.cell 1
 have c2:=hk2.cell 2
 simp only [List.getElem?_toArray,List.getElem?_cons_zero,List.getElem?_cons_succ] at c0 c1 c2
 have hlt:=hk2.lt
 have HB2:=Lib.hid (HB1.out.trans (hb2.mono HB1.out.size))
 have HK2:=Lib.hid (HK1.out.below hb2)
 clear hg hw2 hk2 hb2 k0 k1 k2
 refine (HP.out w2 g hlt c0 c1 c2).mono ?_
 rintro e w3 ⟨rfl,hb3⟩
 have HB3:=Lib.hid (HB2.out.trans (hb3.mono HB2.out.size))
 have hk3:=HK2.out.below hb3
 have k2:=hk3.cell 2
 simp only [List.getElem?_toArray,List.getElem?_cons_zero,List.getElem?_cons_succ] at k2
 clear hb3 c0 c1 c2 hlt hk3 HP HH HF HN HB2 HK2
 go_wp2_with fail
 go_loopw [4,53] (fun v4 v53 wr => ∃ i:Nat,v53=.int .i64 i∧i≤n∧v4=.string (upB h f n (l.take i))∧Below w.heap.size w wr) (fun _ v53 _ => n-(intOf v53).toNat)
 case atStart => exact ⟨0,rfl,by omega,rfl,HB3.out⟩
 case round =>
  obtain ⟨i,rfl,hi,rfl,hbw⟩:=hrel
  have HB:=Lib.hid hbw
  clear hbw
  have hz:=HSZ.out i
  by_cases hlt:i<n
  · have hlt2:(i:Int)<n:=by omega
    have hil:i<l.length:=by rw [← HNL.out];exact hlt
    obtain ⟨b1,o1,rfl,l1,p0,p1,p2,p3,p4,p5,p6,p7⟩:=HX.out i hil
    have g0:=(HB.out.cell (p:=⟨b1,o1+i*8,none⟩) l1).trans p0
    have g1:=(HB.out.cell (p:=⟨b1,o1+i*8+1,none⟩) l1).trans p1
    have g2:=(HB.out.cell (p:=⟨b1,o1+i*8+2,none⟩) l1).trans p2
    have g3:=(HB.out.cell (p:=⟨b1,o1+i*8+3,none⟩) l1).trans p3
    have g4:=(HB.out.cell (p:=⟨b1,o1+i*8+4,none⟩) l1).trans p4
    have g5:=(HB.out.cell (p:=⟨b1,o1+i*8+5,none⟩) l1).trans p5
    have g6:=(HB.out.cell (p:=⟨b1,o1+i*8+6,none⟩) l1).trans p6
    have g7:=(HB.out.cell (p:=⟨b1,o1+i*8+7,none⟩) l1).trans p7
    have hmx:=HM.out l[i] (List.getElem_mem hil)
    have hst:l.take (i+1)=l.take i++[l[i]]:=by rw [List.take_succ_eq_append_getElem hil]
    obtain ⟨y,hy⟩:∃ y,y=l[i]:=⟨_,rfl⟩
    rw [← hy] at g0 g1 g2 g3 g4 g5 g6 g7 hmx hst
    have hel:=Sp.enc_len hmx
    have HE:=Lib.hid (fun W:World => hencode_any (w:=W) y (by have:=hmx.service.2.1;unfold maxLen;omega) (by have:=hmx.host.2.1;unfold maxLen;omega) (by have:=hmx.note;unfold maxLen;omega))
    have esq:spQ y=(Sp.enc y,0):=by unfold spQ;exact if_pos hmx
    rw [esq] at HE
    simp only at HE
    obtain ⟨E,hE⟩:∃ E:ByteArray,E=⟨(Sp.enc y).toArray⟩:=⟨_,rfl⟩
    rw [← hE] at HE
    have hEl:E.data.toList=Sp.enc y:=by rw [hE]
    have hEz:E.size≤112:=by have:=congrArg List.length hEl;rw [Sp.size_toList] at this;omega
    have HPT:=Lib.hid (fun W:World => putText_any E W (by omega))
    have hsn:=upB_snoc h f n (l.take i) y E hEl
    rw [← hst] at hsn
    have hsz2:=HSZ.out (i+1)
    have hlen1:(l.take i).length≤8:=by rw [List.length_take];omega
    have hlen2:(l.take (i+1)).length≤8:=by rw [List.length_take];omega
    obtain ⟨S,hS⟩:∃ S,S=upB h f n (l.take i):=⟨_,rfl⟩
    rw [← hS] at hz hsn ⊢
    obtain ⟨T,hT⟩:∃ T,T=encTB E:=⟨_,rfl⟩
    rw [← hT] at HPT hsn
    have hts:S.size+T.size≤100000:=by
     have:=congrArg ByteArray.size hsn
     rw [ByteArray.size_append] at this
     omega
    have HSN:=Lib.hid hsn
    obtain ⟨tr,id,pa,se,ho,sa,du,no⟩:=y
    unfold spV at HE
    simp only at HE g0 g1 g2 g3 g4 g5 g6 g7
    clear hy hmx hst hel esq hE hEl hsn hsz2 hlen1 hlen2 hS hT hEz p0 p1 p2 p3 p4 p5 p6 p7 hz
    go_wp2_with fail
    obtain ⟨w4,hw4⟩:∃ w4,w4=wr.alloc (.cells #[.int .i64 tr,.int .i64 id,.int .i64 pa,.string se,.string ho,.int .i64 sa,.int .i64 du,.string no] 47 (0,0)):=⟨_,rfl⟩
    rw [← hw4]
    have hb4:Below wr.heap.size wr w4:=by rw [hw4];exact (Below.refl _ _).alloc (Nat.le_refl _) _
    have HB4:=Lib.hid (HB.out.trans (hb4.mono HB.out.size))
    clear hb4 hw4 g0 g1 g2 g3 g4 g5 g6 g7
    refine (HE.out w4).mono ?_
    rintro e w5 ⟨rfl,hb5⟩
    have HB5:=Lib.hid (HB4.out.trans (hb5.mono HB4.out.size))
    clear hb5 HE
    go_wp2_with fail
    refine (HPT.out w5).mono ?_
    rintro e w6 ⟨rfl,hb6⟩
    have HB6:=Lib.hid (HB5.out.trans (hb6.mono HB5.out.size))
    clear hb6 HPT
    go_wp2_with fail
    go_roundw
    case rel => exact ⟨i+1,by go_num,by omega,by rw [HSN.out],HB6.out⟩
    case measure => simp [intOf];omega
  · obtain rfl:i=n:=by omega
    have hall:l.take i=l:=List.take_of_length_le (by rw [← HNL.out];exact Nat.le_refl _)
    rw [hall]
    go_wp2_with fail
    refine bodyPost_ret (v:=.tuple #[.string (upB h f i l),.int .i64 0]) (by simp [results,Tryz.results123,go_sem]) rfl ?_
    exact ⟨rfl,HB.out⟩
end Go.Proofs.YtdacanghbepjpaaGreatDoor
namespace Go.Proofs.YtdacanghbepjpaaGreatDoor
set_option linter.unusedSimpArgs false
set_option linter.unusedVariables false
set_option maxRecDepth 100000
open Go.RowKit Go.Maps
def batVs (ns:List Nat):Array Value:=#[.int .i64 (ns.getD 0 0:Nat),.int .i64 (ns.getD 1 0:Nat),.slice none 0 0]
def manyVs (ns:List Nat):Array Value:=#[.int .i64 (ns.getD 2 0:Nat)]
def batPa (q1 q5:Nat):Nat→Addr
 | 0 => ⟨q1,0,none⟩
 | 1 => ⟨q1,1,none⟩
 | _ => ⟨q5,0,none⟩
structure BatI (w W:World) (q0 q1 q5 g:Nat) (i:Nat) (ns:List Nat):Prop where
 below:Below w.heap.size w W
 len:ns.length=i
 res:Blk W q0 63 #[.int .i64 0,.int .i64 0,.slice none 0 0]
 blk:Blk W q1 63 (batVs ns)
 many:Blk W q5 3 (manyVs ns)
 ptr:Blk W g 142 #[.pointer (some ⟨q1,0,none⟩),.pointer (some ⟨q1,1,none⟩),.pointer (some ⟨q5,0,none⟩)]
theorem BatI.set {w W:World} {q0 q1 q5 g i:Nat} {ns:List Nat} (h:BatI w W q0 q1 q5 g i ns) (hq:w.heap.size≤q1∧w.heap.size≤q5) (h0:q0≠q1∧q0≠q5∧q1≠q5∧g≠q1∧g≠q5) {n:Nat} (hi:i<3):BatI w (W.setCell (batPa q1 q5 i) (.int .i64 n)) q0 q1 q5 g (i+1) (ns++[n]):=by
 obtain ⟨n1,n2,n3,n4,n5⟩:=h0
 obtain ⟨hb,hl,hr,hk,hm,hp⟩:=h
 have hl2:(ns++[n]).length=i+1:=by rw [List.length_append,hl];rfl
 match i,ns,hl,hi with
 | 0,[],_,_ => exact ⟨hb.setCell (p:=⟨q1,0,none⟩) hq.1 _,hl2,hr.set_ot _ _ _ n1,hk.set 0 _,hm.set_ot _ _ _ (Ne.symm n3),hp.set_ot _ _ _ n4⟩
 | 1,[a],_,_ => exact ⟨hb.setCell (p:=⟨q1,1,none⟩) hq.1 _,hl2,hr.set_ot _ _ _ n1,hk.set 1 _,hm.set_ot _ _ _ (Ne.symm n3),hp.set_ot _ _ _ n4⟩
 | 2,[a,b],_,_ => exact ⟨hb.setCell (p:=⟨q5,0,none⟩) hq.2 _,hl2,hr.set_ot _ _ _ n2,hk.set_ot _ _ _ n3,hm.set 0 _,hp.set_ot _ _ _ n5⟩
structure PendS (B:Nat) (w W:World) (sv:Value) (xs:List Sp.Span):Prop where
 chg:Chg (fun k => sv.ownBlock=some k) w W
 sp:OwnSp W B sv xs
theorem PendS.below {B:Nat} {w W W':World} {sv:Value} {xs:List Sp.Span} (h:PendS B w W sv xs) (y:Below W.heap.size W W'):PendS B w W' sv xs:=⟨h.chg.trans (Chg.of_below y),OwnRow.below h.sp y⟩
end Go.Proofs.YtdacanghbepjpaaGreatDoor

/- What each function of the package sums, and of its reference, computes: the walks. What each function of the package frames computes: the walks. -/
import Derived.Test.YtdacanghbepjpaaGreatDoorM2
import Derived.WalkKit
import Derived.WalkSpells
import Derived.WalkLawsBesides
import Derived.Deep.QuietTactic
import Derived.BigQuiet
import Derived.RegionTactic
import Derived.ChangeAlike
import Derived.Test.YtdacanghbepjpaaGreatDoorM1
namespace Go.Proofs.YtdacanghbepjpaaGreatDoor
open Go.RowKit
theorem ret_int {k:IntKind} {a b:Int} (h:a=b):Ending.returned (.int k a)=.returned (.int k b):=by rw [h]
theorem and_half (s:Int) (h0:0≤s) (h1:s<4294967296):bits BinOp.and IntKind.u32 s 65535=s % 65536:=by
 rw [u32_and _ _ h0 h1 (by decide) (by decide)]
 have:s.toNat &&& (65535:Int).toNat=s.toNat % 65536:=Nat.and_two_pow_sub_one_eq_mod s.toNat 16
 rw [this];omega
theorem or_half (x y:Int) (h0:0≤x) (h1:x<65536) (h2:0≤y) (h3:y<65536):bits BinOp.or IntKind.u32 (y*65536) x=y*65536+x:=by
 rw [u32_or _ _ (by omega) (by omega) (by omega) (by omega)]
 rw [nat_join 16 _ _ (by omega) (by omega)];omega
set_option maxHeartbeats 400000 in
theorem of_any (s:Int) (w:World) (h0:0≤s) (h1:s<4294967296) :
  Calls Tryz.prog 201 #[.int .u32 s] w fun e w' => e=.returned (.agg #[.int .i64 (Adl.parts s).1,.int .i64 (Adl.parts s).2])∧Below w.heap.size w w':=by
 have ha:=and_half s h0 h1
 have b1:0≤s % 65536:=by omega
 have b2:s % 65536<65536:=by omega
 go_enter Tryz.func201,Tryz.ntmps201
 go_wp2
 refine bodyPost_ret (v:=.agg #[.int .i64 (Adl.parts s).1,.int .i64 (Adl.parts s).2]) (by simp [results,Tryz.results201,go_sem,Adl.parts]) rfl ⟨rfl,(Below.refl _ _).alloc (Nat.le_refl _) _⟩
set_option maxHeartbeats 400000 in
theorem sum_ptr (b:Nat) (x y:Int) (w:World) (h0:w.cell? ⟨b,0,none⟩=some (.int .i64 x)) (h1:w.cell? ⟨b,1,none⟩=some (.int .i64 y)) (hx:0≤x∧x<65536) (hy:0≤y∧y<65536) :
  Calls Tryz.prog 204 #[.pointer (some ⟨b,0,none⟩)] w fun e w' => e=.returned (.int .u32 (y*65536+x))∧Below w.heap.size w w':=by
 have ho:=Zh (or_half x y hx.1 hx.2 hy.1 hy.2)
 go_enter Tryz.func204,Tryz.ntmps204
 go_wp2
 go_quiet (fail)
 go_wp2
 go_ret
 exact ⟨ret_int ho.out,below_drewN (Below.refl _ _) _⟩
set_option maxHeartbeats 400000 in
theorem add_ptr (b:Nat) (t:TypeId) (x y:Int) (c:UInt8) (w:World) (h:Blk w b t #[.int .i64 x,.int .i64 y]) (hp:Adl.In (x,y)) :
  Calls Tryz.prog 203 #[.pointer (some ⟨b,0,none⟩),.int .u8 c.toNat] w fun e w' => e=.returned (.tuple #[])∧Blk w' b t #[.int .i64 (Adl.upd (x,y) c).1,.int .i64 (Adl.upd (x,y) c).2]∧Chg (·=b) w w':=by
 have hc:=c.toNat_lt
 obtain ⟨hx0,hx1,hy0,hy1⟩:=hp
 simp only at hx0 hx1 hy0 hy1
 have h0:w.cell? ⟨b,0,none⟩=some (.int .i64 x):=h.cell 0
 have h1:w.cell? ⟨b,1,none⟩=some (.int .i64 y):=h.cell 1
 have f0:w.frozen? ⟨b,0,none⟩=false:=h.free 0
 have f1:w.frozen? ⟨b,1,none⟩=false:=h.free 1
 have H:=Zh h
 clear h
 go_enter Tryz.func203,Tryz.ntmps203
 go_wp2
 go_region
 go_end0
 refine ⟨rfl,?_,?_⟩
 · have H2:=(H.out.set 0 (.int .i64 ((x+c.toNat) % 65521))).set 1 (.int .i64 ((y+(x+c.toNat)) % 65521))
   have e:(y+(x+c.toNat)) % 65521=(y+(x+c.toNat) % 65521) % 65521:=by omega
   rw [e] at H2 ⊢
   exact H2
 exact (((Chg.refl (·=b) _).setCell (p:=⟨b,0,none⟩) (fun _ => rfl) _).setCell (p:=⟨b,1,none⟩) (fun _ => rfl) _).drew
theorem take_snoc (s:ByteArray) (k:Nat) (h:k<s.size):s.data.toList.take (k+1)=s.data.toList.take k++[s[k]]:=by
 rw [List.take_succ_eq_append_getElem (by simpa using h)];rfl
theorem run_snoc (p:Int×Int) (l:List UInt8) (x:UInt8):Adl.run p (l++[x])=Adl.upd (Adl.run p l) x:=by rw [Adl.run_append];rfl
set_option maxHeartbeats 400000 in
theorem each_add (b:Nat) (t:TypeId) (x y:Int) (s:ByteArray) (w:World) (hs:s.size≤maxLen) (h:Blk w b t #[.int .i64 x,.int .i64 y]) (hp:Adl.In (x,y)) :
  Calls Tryz.prog 202 #[.string s,.func (.func 203) #[.pointer (some ⟨b,0,none⟩)] #[]] w fun e w' => e=.returned (.tuple #[])∧Blk w' b t #[.int .i64 (Adl.run (x,y) s.data.toList).1,.int .i64 (Adl.run (x,y) s.data.toList).2]∧Chg (·=b) w w':=by
 unfold maxLen at hs
 have H:=Zh h
 clear h
 go_enter Tryz.func202,Tryz.ntmps202
 go_wp2
 go_loopw [7] (fun i wr => ∃ k:Nat,k≤s.size∧i=.int .i64 k∧Blk wr b t #[.int .i64 (Adl.run (x,y) (s.data.toList.take k)).1,.int .i64 (Adl.run (x,y) (s.data.toList.take k)).2]∧Chg (·=b) w wr) (fun i _ => s.size-(intOf i).toNat)
 case atStart => exact ⟨0,Nat.zero_le _,rfl,by simpa [Adl.run] using H.out,Chg.refl _ _⟩
 case round =>
 obtain ⟨k,hk,rfl,hb,hc⟩:=hrel
 have hin:=hp.run (s.data.toList.take k)
 have Hb:=Zh hb
 clear hb
 have Hin:=Zh hin
 clear hin
 by_cases hlt:k<s.size
 · have HS:=Zh (congrArg (Adl.run (x,y)) (take_snoc s k hlt))
   go_wp2_with (go_at_call 203;refine (add_ptr b t _ _ s[k] _ Hb.out Hin.out).mono ?_;rintro e w1 ⟨rfl,hb1,hc1⟩;have Hb1:=Zh hb1;clear hb1)
   go_roundw
   case rel => exact ⟨k+1,by omega,by go_num,by rw [HS.out,run_snoc];exact Hb1.out,hc.trans hc1⟩
   case measure => simp [intOf];omega
 go_wp2
 go_end0
 have e:s.data.toList.take k=s.data.toList:=List.take_of_length_le (by simp;omega)
 have H3:=Hb.out
 rw [e] at H3
 exact ⟨rfl,H3,hc⟩
set_option maxHeartbeats 400000 in
theorem more_any (s:Int) (l:ByteArray) (w:World) (h0:0≤s) (h1:s<4294967296) (hl:l.size≤maxLen) :
  Calls Tryz.prog 176 #[.int .u32 s,.string l] w fun e w' => e=.returned (.int .u32 (Adl.more s l.data.toList))∧Below w.heap.size w w':=by
 have hp:=Zh (Adl.In.parts s)
 go_enter Tryz.func176,Tryz.ntmps176
 go_wp2_with fail
 refine (of_any s _ h0 h1).mono ?_
 rintro e w1 ⟨rfl,hb1⟩
 have hz:=hb1.size
 go_wp2_with fail
 have hk:=Blk.alloc_new w1 234 #[.int .i64 (Adl.parts s).1,.int .i64 (Adl.parts s).2]
 refine (each_add _ _ _ _ l _ hl hk hp.out).mono ?_
 rintro e w2 ⟨rfl,hb2,hc2⟩
 have hin:=hp.out.run l.data.toList
 have q0:w2.cell? ⟨w1.heap.size,0,none⟩=some (.int .i64 (Adl.run (Adl.parts s) l.data.toList).1):=hb2.cell 0
 have q1:w2.cell? ⟨w1.heap.size,1,none⟩=some (.int .i64 (Adl.run (Adl.parts s) l.data.toList).2):=hb2.cell 1
 have Hb1:=Zh (below_chg (((Below.refl w.heap.size w).trans hb1).alloc hz _) (by simp;omega) hc2 (fun i hi e => by omega))
 clear hb1 hb2 hc2 hk
 have Hin:=Zh hin
 clear hin
 go_wp2_with fail
 refine (sum_ptr _ _ _ _ q0 q1 ⟨Hin.out.1,by have:=Hin.out.2.1;omega⟩ ⟨Hin.out.2.2.1,by have:=Hin.out.2.2.2;omega⟩).mono ?_
 rintro e w3 ⟨rfl,hb3⟩
 have Hb3:=Zh hb3
 clear hb3
 go_wp2_with fail
 go_ret
 exact ⟨rfl,Hb1.out.trans (Hb3.out.mono (by have:=Hb1.out.size;omega))⟩
set_option maxHeartbeats 400000 in
theorem sum_any (l:ByteArray) (w:World) (hl:l.size≤maxLen) :
  Calls Tryz.prog 136 #[.string l] w fun e w' => e=.returned (.int .u32 (Adl.sum l.data.toList))∧Below w.heap.size w w':=by
 go_enter Tryz.func136,Tryz.ntmps136
 go_wp2_with fail
 refine (more_any 1 l _ (by decide) (by decide) hl).mono ?_
 rintro e w1 ⟨rfl,hb1⟩
 have Hb1:=Zh hb1
 clear hb1
 go_wp2_with fail
 go_ret
 exact ⟨rfl,Hb1.out⟩
set_option maxHeartbeats 400000 in
theorem bytes_any (s:Int) (w:World) (h0:0≤s) (h1:s<4294967296) :
  Calls Tryz.prog 135 #[.int .u32 s] w fun e w' => e=.returned (.string ⟨(Adl.four s).toArray⟩)∧Below w.heap.size w w':=by
 go_enter Tryz.func135,Tryz.ntmps135
 go_wp2
 go_loopw [3,4] (fun v i wr => ∃ (k:Nat) (n:Int),k≤4∧i=.int .i64 n∧n=24-8*(k:Int)∧OwnB wr w.heap.size v ((Adl.four s).take k)∧Below w.heap.size w wr) (fun _ i _ => (intOf i+8).toNat)
 case atStart => exact ⟨0,_,by omega,rfl,by omega,OwnB.nil _ _,Below.refl _ _⟩
 case round =>
 obtain ⟨k,n,hk,rfl,hn,hown,hbel⟩:=hrel
 have Hown:=Zh hown
 have Hbel:=Zh hbel
 have hz:=hbel.size
 clear hown hbel
 obtain rfl | rfl | rfl | rfl | rfl:k=0∨k=1∨k=2∨k=3∨k=4:=by omega
 · obtain rfl:n=24:=by omega
   clear hn
   go_wp2_with (at_builtin;go_loud (refine wpList_append_byte rfl _ _ rfl w.heap.size _ _ rfl (Hown.out.alloc _) wr.heap.size rfl (s / 16777216) ?c1 (UInt8.ofNat (s / 16777216).toNat) ?c2 ?c3 ?c4 ?_);(case c1 => exact (Blk.alloc_new wr 5 _).cell 0);(case c2 => simp;omega);(case c3 => simp [Adl.four]);(case c4 => simp;omega);intro v' w1 h1 h2;have H1:=Zh h1;have H2:=Zh h2;clear h1 h2)
   go_roundw
   case rel => exact ⟨1,_,by omega,rfl,by omega,H1.out,(Hbel.out.alloc hz _).trans H2.out⟩
   case measure => simp [intOf]
 · obtain rfl:n=16:=by omega
   clear hn
   go_wp2_with (at_builtin;go_loud (refine wpList_append_byte rfl _ _ rfl w.heap.size _ _ rfl (Hown.out.alloc _) wr.heap.size rfl (s / 65536 % 256) ?c1 (UInt8.ofNat (s / 65536 % 256).toNat) ?c2 ?c3 ?c4 ?_);(case c1 => exact (Blk.alloc_new wr 5 _).cell 0);(case c2 => simp;omega);(case c3 => simp [Adl.four]);(case c4 => simp;omega);intro v' w1 h1 h2;have H1:=Zh h1;have H2:=Zh h2;clear h1 h2)
   go_roundw
   case rel => exact ⟨2,_,by omega,rfl,by omega,H1.out,(Hbel.out.alloc hz _).trans H2.out⟩
   case measure => simp [intOf]
 · obtain rfl:n=8:=by omega
   clear hn
   go_wp2_with (at_builtin;go_loud (refine wpList_append_byte rfl _ _ rfl w.heap.size _ _ rfl (Hown.out.alloc _) wr.heap.size rfl (s / 256 % 256) ?c1 (UInt8.ofNat (s / 256 % 256).toNat) ?c2 ?c3 ?c4 ?_);(case c1 => exact (Blk.alloc_new wr 5 _).cell 0);(case c2 => simp;omega);(case c3 => simp [Adl.four]);(case c4 => simp;omega);intro v' w1 h1 h2;have H1:=Zh h1;have H2:=Zh h2;clear h1 h2)
   go_roundw
   case rel => exact ⟨3,_,by omega,rfl,by omega,H1.out,(Hbel.out.alloc hz _).trans H2.out⟩
   case measure => simp [intOf]
 · obtain rfl:n=0:=by omega
   clear hn
   go_wp2_with (at_builtin;go_loud (refine wpList_append_byte rfl _ _ rfl w.heap.size _ _ rfl (Hown.out.alloc _) wr.heap.size rfl (s % 256) ?c1 (UInt8.ofNat (s % 256).toNat) ?c2 ?c3 ?c4 ?_);(case c1 => exact (Blk.alloc_new wr 5 _).cell 0);(case c2 => simp;omega);(case c3 => simp [Adl.four]);(case c4 => simp;omega);intro v' w1 h1 h2;have H1:=Zh h1;have H2:=Zh h2;clear h1 h2)
   go_roundw
   case rel => exact ⟨4,_,by omega,rfl,by omega,H1.out,(Hbel.out.alloc hz _).trans H2.out⟩
   case measure => simp [intOf]
 obtain rfl:n=-8:=by omega
 clear hn
 have hconv:=OwnB.text Hown.out
 go_wp2_with fail
 go_ret
 exact ⟨rfl,Hbel.out⟩
end Go.Proofs.YtdacanghbepjpaaGreatDoor
namespace Go.Proofs.YtdacanghbepjpaaGreatDoor
open Go.RowKit
theorem ret_ib {k:IntKind} {a b:Int} {p q:Bool} (h:a=b) (h2:p=q):Ending.returned (.tuple #[.int k a,.bool p])=.returned (.tuple #[.int k b,.bool q]):=by rw [h,h2]
theorem ret_sib {k:IntKind} {s t:ByteArray} {a b:Int} {p q:Bool} (h0:s=t) (h:a=b) (h2:p=q):Ending.returned (.tuple #[.string s,.int k a,.bool p])=.returned (.tuple #[.string t,.int k b,.bool q]):=by rw [h0,h,h2]
theorem fthree_cells (w:World) (n:Nat) (hn:n≤16384) (j:Nat) (hj:j<[(2:UInt8),UInt8.ofNat (n / 256),UInt8.ofNat (n % 256)].length) :
  (w.alloc (.cells #[.int .u8 2,.int .u8 ((n:Int) / 256),.int .u8 ((n:Int) % 256)] 5)).cell? ⟨w.heap.size,j,none⟩=some (.int .u8 ([(2:UInt8),UInt8.ofNat (n / 256),UInt8.ofNat (n % 256)][j].toNat:Int)):=by
 rw [(Blk.alloc_new w _ _).cell j]
 have hj3:j<3:=hj
 obtain rfl | rfl | rfl:j=0∨j=1∨j=2:=by omega
 · rfl
 · simp;omega
 simp
set_option maxHeartbeats 1000000 in
theorem frame_short (p:ByteArray) (w:World) (hp:p.size≤16384) :
  Calls Tryz.prog 76 #[.string p] w fun e w' => e=.returned (.tuple #[.string ⟨(Frm.frame p.data.toList).toArray⟩,.int .i64 0])∧Below w.heap.size w w':=by
 have hlen:p.data.toList.length=p.size:=by simp
 have h1:¬ ((16384:Int)<p.size):=by omega
 have hm:p.size≤maxLen:=by unfold maxLen;omega
 have Hlen:=Zh hlen
 clear hlen
 go_enter Tryz.func76,Tryz.ntmps76
 go_wp2_with (first
  | (refine wpList_make_bytes rfl _ _ rfl w.heap.size .i64 .i64 _ (8+p.size) rfl rfl (by simp) (by omega) (Nat.le_refl _) ?_;intro v1 w1 hown hbel;have Hown:=Zh hown;have Hbel:=Zh hbel;have hz:=hbel.size;clear hown hbel)
  | (refine wpList_append_bytes rfl (.tmp 12) (.tmp 20) rfl w.heap.size _ [] rfl (Hown.out.alloc _) w1.heap.size 3 3 rfl [2,UInt8.ofNat (p.size / 256),UInt8.ofNat (p.size % 256)] rfl ?k1 (by simp) (by simp;omega) ?_;(case k1 => exact fthree_cells w1 p.size hp);intro v2 w2 hown hbel;have Hown2:=Zh hown;have Hbel2:=Zh ((Hbel.out.alloc hz _).trans hbel);have hz2:=Hbel2.out.size;clear hown hbel Hown Hbel)
  | (refine wpList_append_text rfl (.tmp 22) (.tmp 23) rfl w.heap.size _ _ rfl Hown2.out p rfl (by simp;omega) hz2 ?_;intro v3 w3 hown hbel;have Hown3:=Zh hown;have Hbel3:=Zh (Hbel2.out.trans hbel);have hz3:=Hbel3.out.size;clear hown hbel Hown2 Hbel2))
 refine (sum_any p _ hm).mono ?_
 rintro e w4 ⟨rfl,hb4⟩
 have Hown4:=Zh (Hown3.out.kept hb4)
 have Hbel4:=Zh (Hbel3.out.trans (hb4.mono hz3))
 have hz4:=Hbel4.out.size
 clear hb4 Hown3 Hbel3
 go_wp2_with fail
 refine (bytes_any _ _ (Adl.sum_in _).1 (Adl.sum_in _).2).mono ?_
 rintro e w5 ⟨rfl,hb5⟩
 have Hown5:=Zh (Hown4.out.kept hb5)
 have Hbel5:=Zh (Hbel4.out.trans (hb5.mono hz4))
 have hz5:=Hbel5.out.size
 clear hb5 Hown4 Hbel4
 have h4:(ByteArray.mk (Adl.four (Adl.sum p.data.toList)).toArray).size=4:=rfl
 have H4:=Zh h4
 clear h4
 go_wp2_with (first
  | (refine wpList_append_text rfl (.tmp 24) (.tmp 27) rfl w.heap.size _ _ rfl Hown5.out _ rfl (by rw [H4.out];simp;omega) hz5 ?_;intro v6 w6 hown hbel;have Hown6:=Zh hown;have Hbel6:=Zh (Hbel5.out.trans hbel);have hz6:=Hbel6.out.size;clear hown hbel Hown5 Hbel5)
  | (refine wpList_append_bytes rfl (.tmp 29) (.tmp 30) rfl w.heap.size _ _ rfl (Hown6.out.alloc _) w6.heap.size 1 1 rfl [3] rfl (one_cell w6 3 3 rfl) (by have:=Hlen.out;simp only [List.length_append,List.length_cons,List.length_nil,Frm.four_length];omega) (by simp;omega) ?_;intro v7 w7 hown hbel;have Hown7:=Zh hown;have Hbel7:=Zh ((Hbel6.out.alloc hz6 _).trans hbel);have hz7:=Hbel7.out.size;clear hown hbel Hown6 Hbel6)
  | (refine wpList_own_text rfl (.tmp 31) rfl w.heap.size _ _ rfl Hown7.out ?_))
 go_ret2
 exact ⟨by rw [Frm.frame_eq,Hlen.out];rfl,Hbel7.out⟩
set_option maxHeartbeats 400000 in
theorem room_none (s:ByteArray) (w:World) (hm:s.size≤maxLen) (h:s.size<8∨s.data.toList[0]?≠some 2) :
  Calls Tryz.prog 214 #[.string s] w fun e w' => e=.returned (.tuple #[.int .i64 0,.bool false])∧Below w.heap.size w w':=by
 unfold maxLen at hm
 by_cases h8:(s.size:Int)<8
 · go_enter Tryz.func214,Tryz.ntmps214
   go_wp2_with fail
   go_ret2
   exact ⟨rfl,Below.refl _ _⟩
 have h0:0<s.size:=by omega
 have h2:(((s[0]'h0).toNat:Int) != 2)=true:=by
  rcases h with h | h
  · omega
  rw [List.getElem?_eq_getElem (by simpa using h0)] at h
  have h3:s[0]≠2:=fun e => h (by rw [← e];rfl)
  simp only [bne_iff_ne,ne_eq]
  intro e
  exact h3 (UInt8.toNat_inj.1 (by have e2:(2:UInt8).toNat=2:=rfl;omega))
 clear h
 go_enter Tryz.func214,Tryz.ntmps214
 go_wp2_with fail
 go_ret2
 exact ⟨rfl,Below.refl _ _⟩
theorem len16_str (s:ByteArray) (h1:1<s.size) (h2:2<s.size):(Frm.len16 s.data.toList:Int)=(s[1].toNat:Int)*256+(s[2].toNat:Int):=by
 unfold Frm.len16
 rw [List.getElem?_eq_getElem (show 1<s.data.toList.length by simpa using h1),List.getElem?_eq_getElem (show 2<s.data.toList.length by simpa using h2)]
 simp only [Option.getD_some,Int.natCast_add,Int.natCast_mul]
 rfl
set_option maxHeartbeats 400000 in
theorem room_some (s:ByteArray) (w:World) (hm:s.size≤maxLen) (h8:8≤s.size) (h:s.data.toList[0]?=some 2) :
  Calls Tryz.prog 214 #[.string s] w fun e w' => e=.returned (.tuple #[.int .i64 (8+Frm.len16 s.data.toList:Nat),.bool (decide (Frm.len16 s.data.toList≤16384) && decide (8+Frm.len16 s.data.toList≤s.size))])∧Below w.heap.size w w':=by
 unfold maxLen at hm
 have h0:0<s.size:=by omega
 have h1:1<s.size:=by omega
 have h2:2<s.size:=by omega
 have hb0:(((s[0]'h0).toNat:Int) != 2)=false:=by
  rw [List.getElem?_eq_getElem (by simpa using h0)] at h
  injection h with h
  have h3:s[0]=2:=h
  rw [h3];rfl
 have e:=len16_str s h1 h2
 have b1:=s[1].toNat_lt
 have b2:=s[2].toNat_lt
 have ho:=i64_join s[1].toNat s[2].toNat b1 b2
 generalize Frm.len16 s.data.toList=n at *
 have E:=Zh e
 have I1:(1:Int)<s.size:=by omega
 have I2:(2:Int)<s.size:=by omega
 clear h e
 by_cases c1:(s[1].toNat:Int)*256+(s[2].toNat:Int)≤16384
 · have D1:=Zh (show decide (n≤16384)=true by have:=E.out;simp;omega)
   by_cases c2:8+((s[1].toNat:Int)*256+(s[2].toNat:Int))≤s.size
   · have D2:=Zh (show decide (8+n≤s.size)=true by have:=E.out;simp;omega)
     go_enter Tryz.func214,Tryz.ntmps214
     go_wp2_with fail
     go_quiet (fail)
     go_wp2_with fail
     go_ret2
     exact ⟨ret_ib (by have:=E.out;omega) (by rw [D1.out,D2.out];simp;try omega),below_drewN (Below.refl _ _) _⟩
   have D2:=Zh (show decide (8+n≤s.size)=false by have:=E.out;simp;omega)
   go_enter Tryz.func214,Tryz.ntmps214
   go_wp2_with fail
   go_quiet (fail)
   go_wp2_with fail
   go_ret2
   exact ⟨ret_ib (by have:=E.out;omega) (by rw [D1.out,D2.out];simp;try omega),below_drewN (Below.refl _ _) _⟩
 have D1:=Zh (show decide (n≤16384)=false by have:=E.out;simp;omega)
 go_enter Tryz.func214,Tryz.ntmps214
 go_wp2_with fail
 go_quiet (fail)
 go_wp2_with fail
 go_ret2
 exact ⟨ret_ib (by have:=E.out;omega) (by rw [D1.out];simp;try omega),below_drewN (Below.refl _ _) _⟩
def nextR (l:List UInt8) (k:Nat):Value:=match Frm.nextAt (l.drop k) with
 | none => .tuple #[.string ⟨#[]⟩,.int .i64 0,.bool false]
 | some p => .tuple #[.string ⟨p.toArray⟩,.int .i64 ((k+p.length+8:Nat):Int),.bool true]
theorem tail_list (s:ByteArray) (k:Nat):(s.extract k s.size).data.toList=s.data.toList.drop k:=by
 rw [ByteArray.data_extract,Array.toList_extract,List.extract_eq_take_drop]
 exact List.take_of_length_le (by simp)
set_option maxHeartbeats 1000000 in
theorem next_in (s:ByteArray) (k:Nat) (w:World) (hm:s.size≤140737488355328) (hk:k≤s.size) :
  Calls Tryz.prog 187 #[.string s,.int .i64 k] w fun e w' => e=.returned (nextR s.data.toList k)∧Below w.heap.size w w':=by
 have hx:(s.extract k s.size).size≤maxLen:=by rw [ByteArray.size_extract];unfold maxLen;omega
 have hl:=tail_list s k
 have hz:(s.extract k s.size).size=s.size-k:=by rw [ByteArray.size_extract];omega
 have hdl:(s.data.toList.drop k).length=s.size-k:=by simp
 by_cases hr:s.size-k<8∨(s.data.toList.drop k)[0]?≠some 2
 · have hn:nextR s.data.toList k=.tuple #[.string ⟨#[]⟩,.int .i64 0,.bool false]:=by
    unfold nextR
    rcases hr with hr | hr
    · rw [Frm.nextAt_short _ (by rw [hdl];exact hr)]
    rw [Frm.nextAt_bare _ hr]
   have hc:=fun W => room_none (s.extract k s.size) W hx (by rw [hz,hl];exact hr)
   have Hc:=Zh hc
   have Hn:=Zh hn
   clear hc hn hz hl hdl hr
   go_enter Tryz.func187,Tryz.ntmps187
   go_wp2_with fail
   refine (Hc.out _).mono ?_
   rintro e w1 ⟨rfl,hb1⟩
   have Hb1:=Zh hb1
   clear hb1
   go_wp2_with fail
   go_ret3
   exact ⟨by rw [Hn.out];rfl,Hb1.out⟩
 have hr1:8≤s.size-k:=by omega
 have hr2:(s.data.toList.drop k)[0]?=some 2:=by
  apply Classical.byContradiction;intro h;exact hr (.inr h)
 have hc:=fun W => room_some (s.extract k s.size) W hx (by rw [hz];exact hr1) (by rw [hl];exact hr2)
 rw [hl,hz] at hc
 by_cases hn16:Frm.len16 (s.data.toList.drop k)≤16384∧8+Frm.len16 (s.data.toList.drop k)≤s.size-k
 · obtain ⟨n1,n2⟩:=hn16
   have hn:Frm.nextAt (s.data.toList.drop k)=if (s.data.toList.drop k).take (8+Frm.len16 (s.data.toList.drop k))=Frm.frame (((s.data.toList.drop k).drop 3).take (Frm.len16 (s.data.toList.drop k))) then some (((s.data.toList.drop k).drop 3).take (Frm.len16 (s.data.toList.drop k))) else none:=by
    unfold Frm.nextAt
    rw [hdl]
    by_cases h:(s.data.toList.drop k).take (8+Frm.len16 (s.data.toList.drop k))=Frm.frame (((s.data.toList.drop k).drop 3).take (Frm.len16 (s.data.toList.drop k)))
    · rw [if_pos ⟨n1,n2,h⟩,if_pos h]
    rw [if_neg (fun c => h c.2.2),if_neg h]
   rw [decide_eq_true n1,decide_eq_true n2] at hc
   generalize hg:Frm.len16 (s.data.toList.drop k)=n at *
   have Hc:=Zh hc
   have Hn:=Zh hn
   clear hc hn hz hl hdl hr hr2 hg
   go_enter Tryz.func187,Tryz.ntmps187
   go_wp2_with fail
   refine (Hc.out _).mono ?_
   rintro e w1 ⟨rfl,hb1⟩
   have Hb1:=Zh hb1
   clear hb1
   go_wp2_with fail
   have hpl:(s.extract (k+1+2) (k+(8+n)-5)).data.toList=((s.data.toList.drop k).drop 3).take n:=by
    rw [extract_list,List.drop_drop]
    congr 1
    omega
   have hps:(s.extract (k+1+2) (k+(8+n)-5)).size≤16384:=by rw [ByteArray.size_extract];omega
   have hql:(s.extract k (k+(8+n))).data.toList=(s.data.toList.drop k).take (8+n):=by
    rw [extract_list]
    congr 1
    omega
   have hc2:=fun W => frame_short (s.extract (k+1+2) (k+(8+n)-5)) W hps
   rw [hpl] at hc2
   have hpe:s.extract (k+1+2) (k+(8+n)-5)=⟨(((s.data.toList.drop k).drop 3).take n).toArray⟩:=bytes_ext (by rw [hpl])
   have hpn:(((s.data.toList.drop k).drop 3).take n).length=n:=by simp;omega
   have hn:=Hn.out
   clear Hn
   generalize ((s.data.toList.drop k).drop 3).take n=q at *
   generalize hF:Frm.frame q=F at *
   have Hpe:=Zh hpe
   have Hpn:=Zh hpn
   clear hpl hps hpe hpn
   refine (hc2 _).mono ?_
   rintro e w2 ⟨rfl,hb2⟩
   have Hb2:=Zh (Hb1.out.trans (hb2.mono Hb1.out.size))
   clear hb2 hc2 Hb1
   by_cases hcmp:(s.data.toList.drop k).take (8+n)=F
   · have hq:(F == (s.extract k (k+(8+n))).toList)=true:=by
      rw [ByteArray.toList_eq,hql,hcmp];simp
     have hv:nextR s.data.toList k=.tuple #[.string ⟨q.toArray⟩,.int .i64 ((k+n+8:Nat):Int),.bool true]:=by
      unfold nextR
      rw [hn,if_pos hcmp]
      show Value.tuple #[.string ⟨q.toArray⟩,.int .i64 ((k+q.length+8:Nat):Int),.bool true]=_
      rw [Hpn.out]
     have Hv:=Zh hv
     clear hcmp hn hql hF hv
     go_wp2_with fail
     go_ret3
     refine ⟨?_,Hb2.out⟩
     rw [Hv.out,← Hpe.out]
     exact ret_sib rfl (by omega) rfl
   have hq:(F == (s.extract k (k+(8+n))).toList)=false:=by
    rw [ByteArray.toList_eq,hql]
    exact beq_eq_false_iff_ne.2 fun e => hcmp e.symm
   have hv:nextR s.data.toList k=.tuple #[.string ⟨#[]⟩,.int .i64 0,.bool false]:=by
    unfold nextR
    rw [hn,if_neg hcmp]
   have Hv:=Zh hv
   clear hcmp hn hql hF hv
   go_wp2_with fail
   go_ret3
   exact ⟨by rw [Hv.out];rfl,Hb2.out⟩
 have hv:nextR s.data.toList k=.tuple #[.string ⟨#[]⟩,.int .i64 0,.bool false]:=by
  unfold nextR
  have:Frm.nextAt (s.data.toList.drop k)=none:=by
   unfold Frm.nextAt
   rw [hdl]
   exact if_neg fun c => hn16 ⟨c.1,c.2.1⟩
  rw [this]
 have hd:(decide (Frm.len16 (s.data.toList.drop k)≤16384) && decide (8+Frm.len16 (s.data.toList.drop k)≤s.size-k))=false:=by
  rw [Bool.eq_false_iff]
  simpa using fun h1 h2 => hn16 ⟨h1,h2⟩
 rw [hd] at hc
 generalize Frm.len16 (s.data.toList.drop k)=n at *
 have Hc:=Zh hc
 have Hv:=Zh hv
 clear hc hv hz hl hdl hr hr2 hd hn16
 go_enter Tryz.func187,Tryz.ntmps187
 go_wp2_with fail
 refine (Hc.out _).mono ?_
 rintro e w1 ⟨rfl,hb1⟩
 have Hb1:=Zh hb1
 clear hb1
 go_wp2_with fail
 go_ret3
 exact ⟨by rw [Hv.out];rfl,Hb1.out⟩
end Go.Proofs.YtdacanghbepjpaaGreatDoor

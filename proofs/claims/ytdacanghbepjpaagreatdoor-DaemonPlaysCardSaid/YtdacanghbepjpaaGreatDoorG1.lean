/- What each function of the package sums, and of its reference, computes: the walks. What each function of the package frames computes: the walks. -/
import Derived.Test.YtdacanghbepjpaaGreatDoorM2
import Derived.WalkKit
import Derived.WalkSpells
import Derived.WalkLawsBesides
import Derived.Deep.QuietTactic
import Derived.BigQuiet
import Derived.RegionTactic
import Derived.ChangeAlike
import Derived.Test.YtdacanghbepjpaaGreatDoorM1
namespace Go.Proofs.YtdacanghbepjpaaGreatDoor
open Go.RowKit
theorem ret_int {k:IntKind} {a b:Int} (h:a=b):Ending.returned (.int k a)=.returned (.int k b):=by rw [h]
theorem and_half (s:Int) (h0:0≤s) (h1:s<4294967296):bits BinOp.and IntKind.u32 s 65535=s % 65536:=by
 rw [u32_and _ _ h0 h1 (by decide) (by decide)]
 have:s.toNat &&& (65535:Int).toNat=s.toNat % 65536:=Nat.and_two_pow_sub_one_eq_mod s.toNat 16
 rw [this];omega
theorem or_half (x y:Int) (h0:0≤x) (h1:x<65536) (h2:0≤y) (h3:y<65536):bits BinOp.or IntKind.u32 (y*65536) x=y*65536+x:=by
 rw [u32_or _ _ (by omega) (by omega) (by omega) (by omega)]
 rw [nat_join 16 _ _ (by omega) (by omega)];omega
set_option maxHeartbeats 400000 in
theorem of_any (s:Int) (w:World) (h0:0≤s) (h1:s<4294967296) :
  Calls Tryz.prog 201 #[.int .u32 s] w fun e w' => e=.returned (.agg #[.int .i64 (Adl.parts s).1,.int .i64 (Adl.parts s).2])∧Below w.heap.size w w':=by
 have ha:=and_half s h0 h1
 have b1:0≤s % 65536:=by omega
 have b2:s % 65536<65536:=by omega
 go_enter Tryz.func201,Tryz.ntmps201
 go_wp2
 refine bodyPost_ret (v:=.agg #[.int .i64 (Adl.parts s).1,.int .i64 (Adl.parts s).2]) (by simp [results,Tryz.results201,go_sem,Adl.parts]) rfl ⟨rfl,(Below.refl _ _).alloc (Nat.le_refl _) _⟩
set_option maxHeartbeats 400000 in
theorem sum_ptr (b:Nat) (x y:Int) (w:World) (h0:w.cell? ⟨b,0,none⟩=some (.int .i64 x)) (h1:w.cell? ⟨b,1,none⟩=some (.int .i64 y)) (hx:0≤x∧x<65536) (hy:0≤y∧y<65536) :
  Calls Tryz.prog 204 #[.pointer (some ⟨b,0,none⟩)] w fun e w' => e=.returned (.int .u32 (y*65536+x))∧Below w.heap.size w w':=by
 have ho:=Lib.hid (or_half x y hx.1 hx.2 hy.1 hy.2)
 go_enter Tryz.func204,Tryz.ntmps204
 go_wp2
 go_quiet (fail)
 go_wp2
 go_ret
 exact ⟨ret_int ho.out,below_drewN (Below.refl _ _) _⟩
set_option maxHeartbeats 400000 in
theorem add_ptr (b:Nat) (t:TypeId) (x y:Int) (c:UInt8) (w:World) (h:Blk w b t #[.int .i64 x,.int .i64 y]) (hp:Adl.In (x,y)) :
  Calls Tryz.prog 203 #[.pointer (some ⟨b,0,none⟩),.int .u8 c.toNat] w fun e w' => e=.returned (.tuple #[])∧Blk w' b t #[.int .i64 (Adl.upd (x,y) c).1,.int .i64 (Adl.upd (x,y) c).2]∧Chg (·=b) w w':=by
 have hc:=c.toNat_lt
 obtain ⟨hx0,hx1,hy0,hy1⟩:=hp
 simp only at hx0 hx1 hy0 hy1
 have h0:w.cell? ⟨b,0,none⟩=some (.int .i64 x):=h.cell 0
 have h1:w.cell? ⟨b,1,none⟩=some (.int .i64 y):=h.cell 1
 have f0:w.frozen? ⟨b,0,none⟩=false:=h.free 0
 have f1:w.frozen? ⟨b,1,none⟩=false:=h.free 1
 have H:=Lib.hid h
 clear h
 go_enter Tryz.func203,Tryz.ntmps203
 go_wp2
 go_region
 go_end0
 refine ⟨rfl,?_,?_⟩
 · have H2:=(H.out.set 0 (.int .i64 ((x+c.toNat) % 65521))).set 1 (.int .i64 ((y+(x+c.toNat)) % 65521))
   have e:(y+(x+c.toNat)) % 65521=(y+(x+c.toNat) % 65521) % 65521:=by omega
   rw [e] at H2 ⊢
   exact H2
 · exact (((Chg.refl (·=b) _).setCell (p:=⟨b,0,none⟩) (fun _ => rfl) _).setCell (p:=⟨b,1,none⟩) (fun _ => rfl) _).drew
theorem take_snoc (s:ByteArray) (k:Nat) (h:k<s.size):s.data.toList.take (k+1)=s.data.toList.take k++[s[k]]:=by
 rw [List.take_succ_eq_append_getElem (by simpa using h)];rfl
theorem run_snoc (p:Int×Int) (l:List UInt8) (x:UInt8):Adl.run p (l++[x])=Adl.upd (Adl.run p l) x:=by rw [Adl.run_append];rfl
set_option maxHeartbeats 400000 in
theorem each_add (b:Nat) (t:TypeId) (x y:Int) (s:ByteArray) (w:World) (hs:s.size≤maxLen) (h:Blk w b t #[.int .i64 x,.int .i64 y]) (hp:Adl.In (x,y)) :
  Calls Tryz.prog 202 #[.string s,.func (.func 203) #[.pointer (some ⟨b,0,none⟩)] #[]] w fun e w' => e=.returned (.tuple #[])∧Blk w' b t #[.int .i64 (Adl.run (x,y) s.data.toList).1,.int .i64 (Adl.run (x,y) s.data.toList).2]∧Chg (·=b) w w':=by
 unfold maxLen at hs
 have H:=Lib.hid h
 clear h
 go_enter Tryz.func202,Tryz.ntmps202
 go_wp2
 go_loopw [7] (fun i wr => ∃ k:Nat,k≤s.size∧i=.int .i64 k∧Blk wr b t #[.int .i64 (Adl.run (x,y) (s.data.toList.take k)).1,.int .i64 (Adl.run (x,y) (s.data.toList.take k)).2]∧Chg (·=b) w wr) (fun i _ => s.size-(intOf i).toNat)
 case atStart => exact ⟨0,Nat.zero_le _,rfl,by simpa [Adl.run] using H.out,Chg.refl _ _⟩
 case round =>
  obtain ⟨k,hk,rfl,hb,hc⟩:=hrel
  have hin:=hp.run (s.data.toList.take k)
  have Hb:=Lib.hid hb
  clear hb
  have Hin:=Lib.hid hin
  clear hin
  by_cases hlt:k<s.size
  · have HS:=Lib.hid (congrArg (Adl.run (x,y)) (take_snoc s k hlt))
    go_wp2_with (go_at_call 203;refine (add_ptr b t _ _ s[k] _ Hb.out Hin.out).mono ?_;rintro e w1 ⟨rfl,hb1,hc1⟩;have Hb1:=Lib.hid hb1;clear hb1)
    go_roundw
    case rel => exact ⟨k+1,by omega,by go_num,by rw [HS.out,run_snoc];exact Hb1.out,hc.trans hc1⟩
    case measure => simp [intOf];omega
  · go_wp2
    go_end0
    have e:s.data.toList.take k=s.data.toList:=List.take_of_length_le (by simp;omega)
    have H3:=Hb.out
    rw [e] at H3
    exact ⟨rfl,H3,hc⟩
set_option maxHeartbeats 400000 in
theorem more_any (s:Int) (l:ByteArray) (w:World) (h0:0≤s) (h1:s<4294967296) (hl:l.size≤maxLen) :
  Calls Tryz.prog 176 #[.int .u32 s,.string l] w fun e w' => e=.returned (.int .u32 (Adl.more s l.data.toList))∧Below w.heap.size w w':=by
 have hp:=Lib.hid (Adl.In.parts s)
 go_enter Tryz.func176,Tryz.ntmps176
 go_wp2_with fail
 refine (of_any s _ h0 h1).mono ?_
 rintro e w1 ⟨rfl,hb1⟩
 have hz:=hb1.size
 go_wp2_with fail
 have hk:=Blk.alloc_new w1 234 #[.int .i64 (Adl.parts s).1,.int .i64 (Adl.parts s).2]
 refine (each_add _ _ _ _ l _ hl hk hp.out).mono ?_
 rintro e w2 ⟨rfl,hb2,hc2⟩
 have hin:=hp.out.run l.data.toList
 have q0:w2.cell? ⟨w1.heap.size,0,none⟩=some (.int .i64 (Adl.run (Adl.parts s) l.data.toList).1):=hb2.cell 0
 have q1:w2.cell? ⟨w1.heap.size,1,none⟩=some (.int .i64 (Adl.run (Adl.parts s) l.data.toList).2):=hb2.cell 1
 have Hb1:=Lib.hid (below_chg (((Below.refl w.heap.size w).trans hb1).alloc hz _) (by simp;omega) hc2 (fun i hi e => by omega))
 clear hb1 hb2 hc2 hk
 have Hin:=Lib.hid hin
 clear hin
 go_wp2_with fail
 refine (sum_ptr _ _ _ _ q0 q1 ⟨Hin.out.1,by have:=Hin.out.2.1;omega⟩ ⟨Hin.out.2.2.1,by have:=Hin.out.2.2.2;omega⟩).mono ?_
 rintro e w3 ⟨rfl,hb3⟩
 have Hb3:=Lib.hid hb3
 clear hb3
 go_wp2_with fail
 go_ret
 exact ⟨rfl,Hb1.out.trans (Hb3.out.mono (by have:=Hb1.out.size;omega))⟩
set_option maxHeartbeats 400000 in
theorem sum_any (l:ByteArray) (w:World) (hl:l.size≤maxLen) :
  Calls Tryz.prog 136 #[.string l] w fun e w' => e=.returned (.int .u32 (Adl.sum l.data.toList))∧Below w.heap.size w w':=by
 go_enter Tryz.func136,Tryz.ntmps136
 go_wp2_with fail
 refine (more_any 1 l _ (by decide) (by decide) hl).mono ?_
 rintro e w1 ⟨rfl,hb1⟩
 have Hb1:=Lib.hid hb1
 clear hb1
 go_wp2_with fail
 go_ret
 exact ⟨rfl,Hb1.out⟩
set_option maxHeartbeats 400000 in
theorem bytes_any (s:Int) (w:World) (h0:0≤s) (h1:s<4294967296) :
  Calls Tryz.prog 135 #[.int .u32 s] w fun e w' => e=.returned (.string ⟨(Adl.four s).toArray⟩)∧Below w.heap.size w w':=by
 go_enter Tryz.func135,Tryz.ntmps135
 go_wp2
 go_loopw [3,4] (fun v i wr => ∃ (k:Nat) (n:Int),k≤4∧i=.int .i64 n∧n=24-8*(k:Int)∧OwnB wr w.heap.size v ((Adl.four s).take k)∧Below w.heap.size w wr) (fun _ i _ => (intOf i+8).toNat)
 case atStart => exact ⟨0,_,by omega,rfl,by omega,OwnB.nil _ _,Below.refl _ _⟩
 case round =>
  obtain ⟨k,n,hk,rfl,hn,hown,hbel⟩:=hrel
  have Hown:=Lib.hid hown
  have Hbel:=Lib.hid hbel
  have hz:=hbel.size
  clear hown hbel
  obtain rfl | rfl | rfl | rfl | rfl:k=0∨k=1∨k=2∨k=3∨k=4:=by omega
  · obtain rfl:n=24:=by omega
    clear hn
    go_wp2_with (at_builtin;go_loud (refine wpList_append_byte rfl _ _ rfl w.heap.size _ _ rfl (Hown.out.alloc _) wr.heap.size rfl (s / 16777216) ?c1 (UInt8.ofNat (s / 16777216).toNat) ?c2 ?c3 ?c4 ?_);(case c1 => exact (Blk.alloc_new wr 5 _).cell 0);(case c2 => simp;omega);(case c3 => simp [Adl.four]);(case c4 => simp;omega);intro v' w1 h1 h2;have H1:=Lib.hid h1;have H2:=Lib.hid h2;clear h1 h2)
    go_roundw
    case rel => exact ⟨1,_,by omega,rfl,by omega,H1.out,(Hbel.out.alloc hz _).trans H2.out⟩
    case measure => simp [intOf]
  · obtain rfl:n=16:=by omega
    clear hn
    go_wp2_with (at_builtin;go_loud (refine wpList_append_byte rfl _ _ rfl w.heap.size _ _ rfl (Hown.out.alloc _) wr.heap.size rfl (s / 65536 % 256) ?c1 (UInt8.ofNat (s / 65536 % 256).toNat) ?c2 ?c3 ?c4 ?_);(case c1 => exact (Blk.alloc_new wr 5 _).cell 0);(case c2 => simp;omega);(case c3 => simp [Adl.four]);(case c4 => simp;omega);intro v' w1 h1 h2;have H1:=Lib.hid h1;have H2:=Lib.hid h2;clear h1 h2)
    go_roundw
    case rel => exact ⟨2,_,by omega,rfl,by omega,H1.out,(Hbel.out.alloc hz _).trans H2.out⟩
    case measure => simp [intOf]
  · obtain rfl:n=8:=by omega
    clear hn
    go_wp2_with (at_builtin;go_loud (refine wpList_append_byte rfl _ _ rfl w.heap.size _ _ rfl (Hown.out.alloc _) wr.heap.size rfl (s / 256 % 256) ?c1 (UInt8.ofNat (s / 256 % 256).toNat) ?c2 ?c3 ?c4 ?_);(case c1 => exact (Blk.alloc_new wr 5 _).cell 0);(case c2 => simp;omega);(case c3 => simp [Adl.four]);(case c4 => simp;omega);intro v' w1 h1 h2;have H1:=Lib.hid h1;have H2:=Lib.hid h2;clear h1 h2)
    go_roundw
    case rel => exact ⟨3,_,by omega,rfl,by omega,H1.out,(Hbel.out.alloc hz _).trans H2.out⟩
    case measure => simp [intOf]
  · obtain rfl:n=0:=by omega
    clear hn
    go_wp2_with (at_builtin;go_loud (refine wpList_append_byte rfl _ _ rfl w.heap.size _ _ rfl (Hown.out.alloc _) wr.heap.size rfl (s % 256) ?c1 (UInt8.ofNat (s % 256).toNat) ?c2 ?c3 ?c4 ?_);(case c1 => exact (Blk.alloc_new wr 5 _).cell 0);(case c2 => simp;omega);(case c3 => simp [Adl.four]);(case c4 => simp;omega);intro v' w1 h1 h2;have H1:=Lib.hid h1;have H2:=Lib.hid h2;clear h1 h2)
    go_roundw
    case rel => exact ⟨4,_,by omega,rfl,by omega,H1.out,(Hbel.out.alloc hz _).trans H2.out⟩
    case measure => simp [intOf]
  · obtain rfl:n=-8:=by omega
    clear hn
    have hconv:=OwnB.text Hown.out
    go_wp2_with fail
    go_ret
    exact ⟨rfl,Hbel.out⟩
end Go.Proofs.YtdacanghbepjpaaGreatDoor
namespace Go.Proofs.YtdacanghbepjpaaGreatDoor
open Go.RowKit
theorem fthree_cells (w:World) (n:Nat) (hn:n≤16384) (j:Nat) (hj:j<[(2:UInt8),UInt8.ofNat (n / 256),UInt8.ofNat (n % 256)].length) :
  (w.alloc (.cells #[.int .u8 2,.int .u8 ((n:Int) / 256),.int .u8 ((n:Int) % 256)] 5)).cell? ⟨w.heap.size,j,none⟩=some (.int .u8 ([(2:UInt8),UInt8.ofNat (n / 256),UInt8.ofNat (n % 256)][j].toNat:Int)):=by
 rw [(Blk.alloc_new w _ _).cell j]
 have hj3:j<3:=hj
 obtain rfl | rfl | rfl:j=0∨j=1∨j=2:=by omega
 · rfl
 · simp;omega
 · simp
set_option maxHeartbeats 1000000 in
theorem frame_short (p:ByteArray) (w:World) (hp:p.size≤16384) :
  Calls Tryz.prog 76 #[.string p] w fun e w' => e=.returned (.tuple #[.string ⟨(Frm.frame p.data.toList).toArray⟩,.int .i64 0])∧Below w.heap.size w w':=by
 have hlen:p.data.toList.length=p.size:=by simp
 have h1:¬ ((16384:Int)<p.size):=by omega
 have hm:p.size≤maxLen:=by unfold maxLen;omega
 have Hlen:=Lib.hid hlen
 clear hlen
 go_enter Tryz.func76,Tryz.ntmps76
 go_wp2_with (first
  | (refine wpList_make_bytes rfl _ _ rfl w.heap.size .i64 .i64 _ (8+p.size) rfl rfl (by simp) (by omega) (Nat.le_refl _) ?_;intro v1 w1 hown hbel;have Hown:=Lib.hid hown;have Hbel:=Lib.hid hbel;have hz:=hbel.size;clear hown hbel)
  | (refine wpList_append_bytes rfl (.tmp 12) (.tmp 20) rfl w.heap.size _ [] rfl (Hown.out.alloc _) w1.heap.size 3 3 rfl [2,UInt8.ofNat (p.size / 256),UInt8.ofNat (p.size % 256)] rfl ?k1 (by simp) (by simp;omega) ?_;(case k1 => exact fthree_cells w1 p.size hp);intro v2 w2 hown hbel;have Hown2:=Lib.hid hown;have Hbel2:=Lib.hid ((Hbel.out.alloc hz _).trans hbel);have hz2:=Hbel2.out.size;clear hown hbel Hown Hbel)
  | (refine wpList_append_text rfl (.tmp 22) (.tmp 23) rfl w.heap.size _ _ rfl Hown2.out p rfl (by simp;omega) hz2 ?_;intro v3 w3 hown hbel;have Hown3:=Lib.hid hown;have Hbel3:=Lib.hid (Hbel2.out.trans hbel);have hz3:=Hbel3.out.size;clear hown hbel Hown2 Hbel2))
 refine (sum_any p _ hm).mono ?_
 rintro e w4 ⟨rfl,hb4⟩
 have Hown4:=Lib.hid (Hown3.out.kept hb4)
 have Hbel4:=Lib.hid (Hbel3.out.trans (hb4.mono hz3))
 have hz4:=Hbel4.out.size
 clear hb4 Hown3 Hbel3
 go_wp2_with fail
 refine (bytes_any _ _ (Adl.sum_in _).1 (Adl.sum_in _).2).mono ?_
 rintro e w5 ⟨rfl,hb5⟩
 have Hown5:=Lib.hid (Hown4.out.kept hb5)
 have Hbel5:=Lib.hid (Hbel4.out.trans (hb5.mono hz4))
 have hz5:=Hbel5.out.size
 clear hb5 Hown4 Hbel4
 have h4:(ByteArray.mk (Adl.four (Adl.sum p.data.toList)).toArray).size=4:=rfl
 have H4:=Lib.hid h4
 clear h4
 go_wp2_with (first
  | (refine wpList_append_text rfl (.tmp 24) (.tmp 27) rfl w.heap.size _ _ rfl Hown5.out _ rfl (by rw [H4.out];simp;omega) hz5 ?_;intro v6 w6 hown hbel;have Hown6:=Lib.hid hown;have Hbel6:=Lib.hid (Hbel5.out.trans hbel);have hz6:=Hbel6.out.size;clear hown hbel Hown5 Hbel5)
  | (refine wpList_append_bytes rfl (.tmp 29) (.tmp 30) rfl w.heap.size _ _ rfl (Hown6.out.alloc _) w6.heap.size 1 1 rfl [3] rfl (one_cell w6 3 3 rfl) (by have:=Hlen.out;simp only [List.length_append,List.length_cons,List.length_nil,Frm.four_length];omega) (by simp;omega) ?_;intro v7 w7 hown hbel;have Hown7:=Lib.hid hown;have Hbel7:=Lib.hid ((Hbel6.out.alloc hz6 _).trans hbel);have hz7:=Hbel7.out.size;clear hown hbel Hown6 Hbel6)
  | (refine wpList_own_text rfl (.tmp 31) rfl w.heap.size _ _ rfl Hown7.out ?_))
 go_ret2
 exact ⟨by rw [Frm.frame_eq,Hlen.out];rfl,Hbel7.out⟩
end Go.Proofs.YtdacanghbepjpaaGreatDoor

/- slices.Sorted of maps.Keys at this program: the kit's contracts on any program, laid at this one. -/
import Derived.Shelf.SlIter.Nil
import Derived.Shelf.SortM.Plain
import Derived.Shelf.SortM.SortNone
import Derived.Ground.GgzProg
import Derived.Ground.SlgmProg
import Derived.Test.YtdacanghbepjpaaGreatDoorProg
namespace Go.Proofs
open Go.Shelf
def Tryz.keys185_ren:Go.Shelf.Ren:=⟨fun | 7 => 185 | 10 => 211 | n => n,fun | 23 => 154 | 26 => 9 | 3 => 185 | 28 => 222 | 0 => 0 | 27 => 221 | 33 => 183 | 4 => 4 | n => n,fun | n => n⟩
theorem Tryz.keys185:Go.Proofs.SlLaysZ.n7 Tryz.prog Tryz.keys185_ren:={
 mixed:=by kernel_rfl
 f7:=⟨Tryz.f185.name,by decide,Tryz.func185.trans (congrArg some (by kernel_rfl))⟩
 f10:=⟨Tryz.f211.name,by decide,Tryz.func211.trans (congrArg some (by kernel_rfl))⟩
 t0:=Tryz.underlying0
 a0:=Tryz.isAgg0
 z0:=Tryz.sizeOf0
 v0:=Tryz.zeroValue0
 t4:=Tryz.underlying4
 a4:=Tryz.isAgg4
 z4:=Tryz.sizeOf4
 v4:=Tryz.zeroValue4
 t23:=Tryz.underlying154
 a23:=Tryz.isAgg154
 z23:=Tryz.sizeOf154
 v23:=Tryz.zeroValue154
 t26:=Tryz.underlying9
 a26:=Tryz.isAgg9
 z26:=Tryz.sizeOf9
 v26:=Tryz.zeroValue9
 t27:=Tryz.underlying221
 a27:=Tryz.isAgg221
 z27:=Tryz.sizeOf221
 v27:=Tryz.zeroValue221
 t28:=Tryz.underlying222
 a28:=Tryz.isAgg222
 z28:=Tryz.sizeOf222
 v28:=Tryz.zeroValue222
 t33:=Tryz.underlying183
 a33:=Tryz.isAgg183
 z33:=Tryz.sizeOf183
 v33:=Tryz.zeroValue183 }
def Tryz.sorted184_ren:Go.Shelf.Ren:=⟨fun | 6 => 184 | 8 => 209 | 9 => 210 | 11 => 222 | 13 => 224 | 12 => 223 | 23 => 246 | 24 => 175 | 14 => 237 | 15 => 238 | 16 => 239 | 17 => 240 | 18 => 241 | 19 => 242 | 20 => 243 | 21 => 244 | 22 => 245 | 25 => 252 | 26 => 253 | 27 => 254 | 28 => 255 | 29 => 256 | 30 => 257 | 31 => 260 | n => n,fun | 26 => 9 | 28 => 222 | 24 => 202 | 0 => 0 | 3 => 3 | 37 => 179 | 48 => 181 | 50 => 216 | 4 => 4 | 40 => 268 | 39 => 267 | 45 => 195 | 5 => 5 | 9 => 9 | 51 => 279 | 55 => 142 | 57 => 290 | 58 => 291 | 33 => 183 | n => n,fun | n => n⟩
theorem Tryz.sorted184:Go.Proofs.SlLaysZ.n6 Tryz.prog Tryz.sorted184_ren:={
 mixed:=by kernel_rfl
 f6:=⟨Tryz.f184.name,by decide,Tryz.func184.trans (congrArg some (by kernel_rfl))⟩
 f8:=⟨Tryz.f209.name,by decide,Tryz.func209.trans (congrArg some (by kernel_rfl))⟩
 f11:=⟨Tryz.f222.name,by decide,Tryz.func222.trans (congrArg some (by kernel_rfl))⟩
 t0:=Tryz.underlying0
 a0:=Tryz.isAgg0
 z0:=Tryz.sizeOf0
 v0:=Tryz.zeroValue0
 t24:=Tryz.underlying202
 a24:=Tryz.isAgg202
 z24:=Tryz.sizeOf202
 v24:=Tryz.zeroValue202
 t26:=Tryz.underlying9
 a26:=Tryz.isAgg9
 z26:=Tryz.sizeOf9
 v26:=Tryz.zeroValue9
 t28:=Tryz.underlying222
 a28:=Tryz.isAgg222
 z28:=Tryz.sizeOf222
 v28:=Tryz.zeroValue222
 i26:=by kernel_rfl }
def Tryz.sort210_ren:Go.Shelf.Ren:=⟨fun | 6 => 210 | 8 => 224 | 9 => 223 | 19 => 246 | 20 => 175 | 21 => 237 | 22 => 238 | 23 => 239 | 24 => 240 | 25 => 241 | 26 => 242 | 27 => 243 | 28 => 244 | 29 => 245 | 36 => 252 | 31 => 253 | 32 => 254 | 37 => 255 | 38 => 256 | 39 => 257 | 41 => 260 | n => n,fun | 27 => 202 | 29 => 9 | 3 => 3 | 32 => 179 | 26 => 202 | 0 => 0 | 44 => 181 | 46 => 216 | 4 => 4 | 36 => 268 | 35 => 267 | 41 => 195 | 5 => 5 | 9 => 9 | 53 => 279 | 57 => 142 | 63 => 290 | 64 => 291 | n => n,fun | n => n⟩
theorem Tryz.sort210:Go.Proofs.SlLaysM.n6 Tryz.prog Tryz.sort210_ren:={
 mixed:=by kernel_rfl
 f6:=⟨Tryz.f210.name,by decide,Tryz.func210.trans (congrArg some (by kernel_rfl))⟩
 f8:=Tryz.func224.trans (congrArg some (by kernel_rfl))
 f9:=⟨Tryz.f223.name,by decide,Tryz.func223.trans (congrArg some (by kernel_rfl))⟩
 f19:=Tryz.func246.trans (congrArg some (by kernel_rfl))
 f20:=Tryz.func175.trans (congrArg some (by kernel_rfl))
 f21:=⟨Tryz.f237.name,by decide,Tryz.func237.trans (congrArg some (by kernel_rfl))⟩
 f22:=⟨Tryz.f238.name,by decide,Tryz.func238.trans (congrArg some (by kernel_rfl))⟩
 f23:=⟨Tryz.f239.name,by decide,Tryz.func239.trans (congrArg some (by kernel_rfl))⟩
 f24:=⟨Tryz.f240.name,by decide,Tryz.func240.trans (congrArg some (by kernel_rfl))⟩
 f25:=⟨Tryz.f241.name,by decide,Tryz.func241.trans (congrArg some (by kernel_rfl))⟩
 f26:=⟨Tryz.f242.name,by decide,Tryz.func242.trans (congrArg some (by kernel_rfl))⟩
 f27:=⟨Tryz.f243.name,by decide,Tryz.func243.trans (congrArg some (by kernel_rfl))⟩
 f28:=⟨Tryz.f244.name,by decide,Tryz.func244.trans (congrArg some (by kernel_rfl))⟩
 f29:=⟨Tryz.f245.name,by decide,Tryz.func245.trans (congrArg some (by kernel_rfl))⟩
 f31:=Tryz.func253.trans (congrArg some (by kernel_rfl))
 f32:=Tryz.func254.trans (congrArg some (by kernel_rfl))
 f36:=⟨Tryz.f252.name,by decide,Tryz.func252.trans (congrArg some (by kernel_rfl))⟩
 f37:=⟨Tryz.f255.name,by decide,Tryz.func255.trans (congrArg some (by kernel_rfl))⟩
 f38:=⟨Tryz.f256.name,by decide,Tryz.func256.trans (congrArg some (by kernel_rfl))⟩
 f39:=⟨Tryz.f257.name,by decide,Tryz.func257.trans (congrArg some (by kernel_rfl))⟩
 f41:=⟨Tryz.f260.name,by decide,Tryz.func260.trans (congrArg some (by kernel_rfl))⟩
 t0:=Tryz.underlying0
 a0:=Tryz.isAgg0
 z0:=Tryz.sizeOf0
 v0:=Tryz.zeroValue0
 t3:=Tryz.underlying3
 a3:=Tryz.isAgg3
 z3:=Tryz.sizeOf3
 v3:=Tryz.zeroValue3
 t4:=Tryz.underlying4
 a4:=Tryz.isAgg4
 z4:=Tryz.sizeOf4
 v4:=Tryz.zeroValue4
 t5:=Tryz.underlying5
 a5:=Tryz.isAgg5
 z5:=Tryz.sizeOf5
 v5:=Tryz.zeroValue5
 t9:=Tryz.underlying9
 a9:=Tryz.isAgg9
 z9:=Tryz.sizeOf9
 v9:=Tryz.zeroValue9
 t26:=Tryz.underlying202
 a26:=Tryz.isAgg202
 z26:=Tryz.sizeOf202
 v26:=Tryz.zeroValue202
 t27:=Tryz.underlying202
 a27:=Tryz.isAgg202
 z27:=Tryz.sizeOf202
 v27:=Tryz.zeroValue202
 t29:=Tryz.underlying9
 a29:=Tryz.isAgg9
 z29:=Tryz.sizeOf9
 v29:=Tryz.zeroValue9
 t32:=Tryz.underlying179
 a32:=Tryz.isAgg179
 z32:=Tryz.sizeOf179
 v32:=Tryz.zeroValue179
 t35:=Tryz.underlying267
 a35:=Tryz.isAgg267
 z35:=Tryz.sizeOf267
 v35:=Tryz.zeroValue267
 t36:=Tryz.underlying268
 a36:=Tryz.isAgg268
 z36:=Tryz.sizeOf268
 v36:=Tryz.zeroValue268
 t41:=Tryz.underlying195
 a41:=Tryz.isAgg195
 z41:=Tryz.sizeOf195
 v41:=Tryz.zeroValue195
 t44:=Tryz.underlying181
 a44:=Tryz.isAgg181
 z44:=Tryz.sizeOf181
 v44:=Tryz.zeroValue181
 t46:=Tryz.underlying216
 a46:=Tryz.isAgg216
 z46:=Tryz.sizeOf216
 v46:=Tryz.zeroValue216
 t53:=Tryz.underlying279
 a53:=Tryz.isAgg279
 z53:=Tryz.sizeOf279
 v53:=Tryz.zeroValue279
 t57:=Tryz.underlying142
 a57:=Tryz.isAgg142
 z57:=Tryz.sizeOf142
 v57:=Tryz.zeroValue142
 t63:=Tryz.underlying290
 a63:=Tryz.isAgg290
 z63:=Tryz.sizeOf290
 v63:=Tryz.zeroValue290
 t64:=Tryz.underlying291
 a64:=Tryz.isAgg291
 z64:=Tryz.sizeOf291
 v64:=Tryz.zeroValue291 }
open Go.RowKit Go.Maps Go.Sort Go.Shelf
theorem Tryz.sorts184 (m:Nat):AnyZ.SortsIn Tryz.prog Tryz.sorted184_ren Fence.wide m :=
 ⟨fun blk off cap ss W hH hblk hsz => callsIn_wide.2 (AnyM.slices_Sort_string Tryz.sort210 blk off cap ss W hH hblk hsz),
  fun p cap W => callsIn_wide.2 (AnyM.slices_Sort_string_none Tryz.sort210 p cap W)⟩
theorem Tryz.maps_Keys_185 (mb:Option Nat) (W:World):CallsIn Fence.wide 5 Tryz.prog 185 #[.map mb] W fun e w' => e=.returned (.func (.func 211) #[] #[.pointer (some ⟨W.heap.size,0,none⟩)])∧w'=W.alloc (.cells #[.map mb] 154) :=
 AnyZ.keys_in Tryz.keys185 Fence.wide 5 trivial rfl mb W
set_option maxHeartbeats 1000000 in
theorem Tryz.slices_Sorted_keys_184_185 {H:Type} (b nn:Nat) (D0:DataW H) (R:Value→Option (DataW H×List MemPlace)) (w:World) (hown:w.ownsMap Tryz.prog 9 R b nn D0) (hmax:Maps.size D0≤maxLen) (hbytes:Maps.size D0*16≤140737488355328) :
  CallsIn Fence.wide 5 Tryz.prog 184 #[.func (.func 211) #[] #[.pointer (some ⟨w.heap.size,0,none⟩)]] (w.alloc (.cells #[.map (some b)] 154)) fun e w' => ∃ (v:Value) (ss:List (List UInt8)),e=.returned v∧ss.Perm (strKeys D0) ∧
   w'.ownsRow (w.alloc (.cells #[.map (some b)] 154)).heap.size 9 1 v ss.length ((ss.mergeSort (fun x y => decide (x≤y))).map encStr)∧(v=.slice none 0 0↔ss=[])∧Below (w.alloc (.cells #[.map (some b)] 154)).heap.size (w.alloc (.cells #[.map (some b)] 154)) w':=by
 have hbl:=hown.lt
 have hseq:SeqGives Fence.wide 2 Tryz.prog 211 #[.pointer (some ⟨w.heap.size,0,none⟩)] encStr (fun ss => ss.Perm (strKeys D0)) (Maps.size D0) (w.alloc (.cells #[.map (some b)] 154)) :=
  AnyZ.keys_gives (ρ:=Tryz.keys185_ren) { Tryz.keys185 with } Fence.wide _ trivial rfl (by omega) w.heap.size b nn D0 _ (by simp) (by simp) (by
   obtain ⟨es,clock,hb,Ft,hs,hD⟩:=hown
   exact ⟨es,clock,(Below.heap_alloc _ _ b hbl).trans hb,Ft,hs,hD⟩)
 exact AnyZ.sorted_in Tryz.sorted184 Fence.wide 5 trivial trivial trivial trivial rfl (by omega) (Tryz.sorts184 _) (enters_of Tryz.func210 (by kernel_rfl) rfl) 211 #[.pointer (some ⟨w.heap.size,0,none⟩)] trivial (enters_of Tryz.func211 (by kernel_rfl) rfl) _ _ hmax hbytes _ hseq
end Go.Proofs

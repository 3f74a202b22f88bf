/- Texts put together and cut to what is used: AesStream, SealPlain, Seal, SealNew, SealBox, SealMark. -/
import Derived.Test.YtioigihakjlopaaGreatVB20
import Derived.Test.YtioigihakjlopaaGreatVB22
namespace Go.Proofs.YtioigihakjlopaaGreat
set_option linter.unusedVariables false
set_option linter.unusedSimpArgs false
section
open Go.RowKit
attribute [local go_sem] bits_xor_B8 bits_and_B8 bits_or_B8 ofInt_B8
def ctr (nonce:Nat→BitVec 8) (q:Nat):Nat→BitVec 8:=fun j=>if j<12 then nonce j else BitVec.ofNat 8 (q/2^(24-8*(j-12)))
def ksb (key nonce:Nat→BitVec 8) (i:Nat):BitVec 8:=enc key (ctr nonce (i/16)) (i%16)
def stk (key nonce:Nat→BitVec 8) (l:List UInt8) (k:Nat):List UInt8:=(List.range k).map fun i=>⟨(l.getD i 0).toBitVec^^^ksb key nonce i⟩
def stm (key nonce:Nat→BitVec 8) (l:List UInt8):List UInt8:=stk key nonce l l.length
theorem stk_snoc (key nonce:Nat→BitVec 8) (l:List UInt8) (k:Nat):stk key nonce l (k+1)=stk key nonce l k++ [⟨(l.getD k 0).toBitVec^^^ksb key nonce k⟩]:=by
 simp [stk,List.range_succ]
theorem stk_length (key nonce:Nat→BitVec 8) (l:List UInt8) (k:Nat):(stk key nonce l k).length=k:=by simp [stk]
theorem stm_length (key nonce:Nat→BitVec 8) (l:List UInt8):(stm key nonce l).length=l.length:=stk_length _ _ _ _
theorem stm_stm (key nonce:Nat→BitVec 8) (l:List UInt8):stm key nonce (stm key nonce l)=l:=by
 apply List.ext_getElem
 ·rw [stm_length,stm_length]
 ·intro i h1 h2
  simp only [stm,stk,List.getElem_map,List.getElem_range,List.length_map,List.length_range]
  rw [List.getD_eq_getElem?_getD,List.getElem?_eq_getElem (by simpa using h2)]
  simp only [Option.getD_some,List.getElem_map,List.getElem_range]
  rw [BitVec.xor_assoc,BitVec.xor_self,BitVec.xor_zero,List.getD_eq_getElem?_getD,List.getElem?_eq_getElem h2]
  rfl
theorem bytesT5:RowType Tryz.prog 22 5 1 1:=RowType.mk (z:= .int .u8 0) Tryz.underlying22 (by kernel_rfl) rfl (by omega)
theorem agg12:AggT Tryz.prog 175 12:=⟨⟨_,Tryz.underlying175,rfl⟩,by kernel_rfl⟩
theorem len12:Tryz.prog.arrayLen 175=12:=by kernel_rfl
theorem elem12:Tryz.prog.elem 175=5:=by kernel_rfl
theorem u8Sized (W:World):(sizeOf 5).run Tryz.prog W= .ok 1 W:=by
 have:=u8InfoA
 cases hq:Tryz.prog.info? 5 with
 |none=>simp [hq] at this
 |some i=>simp [hq] at this;simp [sizeOf,typeInfo,hq,this]
theorem all12 (b:Nat) (W:World):(Instr.sliceAt 175 (.pointer (some ⟨b,0,none⟩)) none none none).run Tryz.prog W= .ok (.slice (some ⟨b,0,none⟩) 12 12) W:=by
 have ht:Tryz.prog.underlying 175=some (.array (Tryz.prog.arrayLen 175) (Tryz.prog.elem 175)):=by rw [len12,elem12];exact Tryz.underlying175
 rw [run_sliceAt_array_all W _ _ ht,elem12,u8Sized,len12]
 simp [slicedAt];rfl
theorem all16 (b:Nat) (W:World):(Instr.sliceAt 169 (.pointer (some ⟨b,0,none⟩)) none none none).run Tryz.prog W= .ok (.slice (some ⟨b,0,none⟩) 16 16) W:=by
 have ht:Tryz.prog.underlying 169=some (.array (Tryz.prog.arrayLen 169) (Tryz.prog.elem 169)):=by rw [len16,elem16];exact Tryz.underlying169
 rw [run_sliceAt_array_all W _ _ ht,elem16,u8Sized,len16]
 simp [slicedAt];rfl
theorem splice_nonce (nonce:Nat→BitVec 8):splice (fA 16 fun _=>0#8) 0 (fL 12 nonce).toArray=fA 16 fun j=>if j<12 then nonce j else 0#8:=by
 have:=fA_splice (n:=16) (o:=0) (m:=12) (fun _=>0#8) nonce (by omega)
 rw [show (fL 12 nonce).toArray=fA 12 nonce from rfl,this]
 exact fA_eq fun i _=>by simp
structure StIn (w:World) (H g X Y:Nat) (key nonce:Nat→BitVec 8) (l:List UInt8) (k:Nat) (oa:Option Addr) (oc:Nat) (xs ys:Nat→BitVec 8) (wr:World):Prop where
 own:Own wr H 5 1 oa k oc ((stk key nonce l k).map bv)
 cph:Blk wr g (fA 688 (cph key)) 233
 x:Blk wr X (fA 16 xs) 169
 y:Blk wr Y (fA 16 ys) 169
 below:Below H w wr
def StRel (w:World) (H g X Y:Nat) (key nonce:Nat→BitVec 8) (l:List UInt8) (f:Nat) (o i:Value) (wr:World):Prop:=
 ∃(k:Nat) (oa:Option Addr) (oc:Nat) (xs ys:Nat→BitVec 8),f+k=l.length∧i= .int .i64 (k:Int)∧o= .slice oa k oc∧(∀j,j<12→xs j=nonce j)∧(k%16≠0→∀j,j<16→ys j=enc key (ctr nonce (k/16)) j)∧StIn w H g X Y key nonce l k oa oc xs ys wr
def CtRel (w:World) (H g X Y:Nat) (key nonce:Nat→BitVec 8) (l:List UInt8) (k:Nat) (oa:Option Addr) (oc:Nat) (xs ys:Nat→BitVec 8) (f:Nat) (j:Value) (wr:World):Prop:=
 ∃m:Nat,f+m=4∧j= .int .i64 (m:Int)∧StIn w H g X Y key nonce l k oa oc (fun i=>if i<12 then nonce i else if i<12+m then ctr nonce (k/16) i else xs i) ys wr
theorem ctr_nat (nonce:Nat→BitVec 8) (k m p:Nat) (hp:p=2^(24-8*m)):B8 (ctr nonce (k/16) (12+m))=((k/16/p%256:Nat):Int):=by
 rw [ctr,if_neg (by omega),show 12+m-12=m by omega,←hp]
 show (((BitVec.ofNat 8 (k/16/p)).toNat:Nat):Int)=_
 rw [BitVec.toNat_ofNat]
theorem ctr_b0 (nonce:Nat→BitVec 8) (k:Nat) (_h:k<65536):(k:Int)/16/16777216=B8 (ctr nonce (k/16) (12+0)):=by rw [ctr_nat nonce k 0 16777216 rfl];omega
theorem ctr_b1 (nonce:Nat→BitVec 8) (k:Nat) (_h:k<65536):(k:Int)/16/65536=B8 (ctr nonce (k/16) (12+1)):=by rw [ctr_nat nonce k 1 65536 rfl];omega
theorem ctr_b2 (nonce:Nat→BitVec 8) (k:Nat) (_h:k<65536):(k:Int)/16/256=B8 (ctr nonce (k/16) (12+2)):=by rw [ctr_nat nonce k 2 256 rfl];omega
theorem ctr_b3 (nonce:Nat→BitVec 8) (k:Nat):(k:Int)/16%256=B8 (ctr nonce (k/16) (12+3)):=by rw [ctr_nat nonce k 3 1 rfl];omega
theorem ctr_b3' (nonce:Nat→BitVec 8) (k:Nat):(k:Int)/16/1%256=B8 (ctr nonce (k/16) (12+3)):=by rw [ctr_nat nonce k 3 1 rfl];omega
theorem ct_step {wr:World} {X k m:Nat} {nonce xs:Nat→BitVec 8} {z:Int} (hm:m<4) (_hk:12+m<16) (h:Blk wr X (fA 16 (fun i=>if i<12 then nonce i else if i<12+m then ctr nonce (k/16) i else xs i)) 169)
  (hz:z=B8 (ctr nonce (k/16) (12+m))):Blk (wr.setCell ⟨X,12+m,none⟩ (.int .u8 z)) X (fA 16 (fun i=>if i<12 then nonce i else if i<12+(m+1) then ctr nonce (k/16) i else xs i)) 169:=by
 subst hz
 refine (h.setF (by omega) (ctr nonce (k/16) (12+m))).ofF fun i hi=> ?_
 by_cases e:i=12+m
 ·subst e;rw [if_pos rfl,if_neg (by omega),if_pos (by omega)]
 ·rw [if_neg e]
  by_cases h2:i<12
  ·rw [if_pos h2,if_pos h2]
  ·rw [if_neg h2,if_neg h2]
   by_cases h3:i<12+m
   ·rw [if_pos h3,if_pos (by omega)]
   ·rw [if_neg h3,if_neg (by omega)]
theorem ctr_all (nonce xs:Nat→BitVec 8) {q:Nat} (i:Nat) (h:i<16):(if i<12 then nonce i else if i<12+4 then ctr nonce q i else xs i)=ctr nonce q i:=by
 by_cases h2:i<12
 ·rw [if_pos h2,ctr,if_pos h2]
 ·rw [if_neg h2,if_pos (by omega)]
theorem st_next {w:World} {H g X Y:Nat} {key nonce:Nat→BitVec 8} {l:List UInt8} {k f:Nat} {oa oa':Option Addr} {oc oc':Nat} {xs:Nat→BitVec 8} {w6 w7:World} (hk:k<l.length) (hf:f+k=l.length) (hH:H≤w6.heap.size)
  (hx:∀j,j<12→xs j=nonce j) (hin:StIn w H g X Y key nonce l k oa oc xs (enc key (ctr nonce (k/16))) w6) {cs:Array Value} {ty:TypeId}
  (hown:Own w7 H 5 1 oa' (k+1) oc' ((stk key nonce l k).map bv++ [.int .u8 (B8 (l[k].toBitVec^^^enc key (ctr nonce (k/16)) (k%16)))]))
  (hg:(w6.alloc (.cells cs ty)).grownBy w7 (Value.slice oa k oc).ownBlock):StRel w H g X Y key nonce l (f-1) (.slice oa' (k+1) oc') (.int .i64 ((k:Int)+1)) w7:=by
 have hG:l.getD k 0=l[k]:=by rw [List.getD_eq_getElem?_getD,List.getElem?_eq_getElem hk];rfl
 have kn:=KeepNot.grown (hin.own.alloc (.cells cs ty)) hg
 refine ⟨k+1,oa',oc',xs,enc key (ctr nonce (k/16)),by omega,by go_num,rfl,hx,fun h j _=> ?_,?_,(hin.cph.alloc _).keepNot kn (by decide),(hin.x.alloc _).keepNot kn (by decide),(hin.y.alloc _).keepNot kn (by decide),(hin.own.alloc _).grown (hin.below.alloc hH _) (Nat.le_refl _) hg (by simp;omega)⟩
 ·rw [show (k+1)/16=k/16 by omega]
 ·rw [stk_snoc,List.map_append,hG]
  exact hown
set_option maxHeartbeats 1000000 in
set_option maxRecDepth 100000 in
theorem stream_any (key nonce:Nat→BitVec 8) (a:Option Addr) (len cap:Nat) (l:List UInt8) (w:World) (hl:BytesAt w a l) (hlen:l.length=len) (hm:len≤65536):
  Calls Tryz.prog 112 #[.agg (fA 16 key),.agg (fA 12 nonce),.slice a len cap] w fun e w'=>∃a' c',e= .returned (.tuple #[.slice a' len c',.int .i64 0])∧Own w' w.heap.size 5 1 a' len c' ((stm key nonce l).map bv)∧Below w.heap.size w w':=by
 have t1:decide ((65536:Int)<(len:Int))=false:=by simp;omega
 obtain ⟨i0,hi0,hz0,hs0,hb0⟩:=info_parts (show (Tryz.prog.info? 5).map (fun i=>(i.zero,i.size,i.bytes))=some (some (.int .u8 0),1,1) by kernel_rfl)
 have HI:=Lib.hid hi0
 have HZ:=Lib.hid hz0
 have HS:=Lib.hid hs0
 have HB:=Lib.hid hb0
 have HL:=Lib.hid hlen
 clear hi0 hz0 hs0 hb0 hlen
 go_enter Tryz.func112,Tryz.ntmps112
 go_upto_region 3 with (fail)
 refine wp_forget (fun W0=>Blk W0 w.heap.size (fA 16 key) 169∧Blk W0 (w.heap.size+1) (fA 12 nonce) 175∧w.heap.size+2≤W0.heap.size∧Below w.heap.size w W0) ⟨Blk.new2 _ _ _ _,Blk.new2' _ _ _ _,by simp,by (try unfold Kept);repeat (first|assumption|exact Below.refl _ _|exact below_undrew (Below.refl _ _)|exact Below.mono (by assumption) (by first|(simp;done)|(simp;omega)|omega)|refine below_setRow ?_ (by first|(simp;done)|(simp;omega)|omega) _|refine Below.setCell ?_ (by first|(simp;done)|(simp;omega)|omega) _|refine Below.alloc ?_ (by first|(simp;done)|(simp;omega)|omega) _|refine below_drewN ?_ _|refine Below.drew ?_|refine below_undrew ?_|refine below_step ?_ (by assumption))⟩ ?_
 rintro w0 ⟨hK,hN,hs,hb⟩
 obtain ⟨H,hH⟩:∃H,H=w.heap.size:=⟨_,rfl⟩
 rw [←hH] at hK hN hs hb⊢
 have HH:=Lib.hid hH
 clear hH
 go_wp2_with (refine wpList_load_blk rfl 169 agg16 _ rfl rfl hK (fA_size _ _) ?_)
 refine (ready_any key _).mono ?_
 rintro e w1 ⟨g,rfl,hg,hC,hb1⟩
 have hb01:Below H w w1:=hb.trans (hb1.mono (by omega))
 have hs1:H+2≤w1.heap.size:=by have:=hb1.size;omega
 have hN1:=hN.old hb1
 have hg2:H+2≤g:=by omega
 clear hK hN hb hs hb1
 go_wp2_with (at_make;refine wpList_make_own _ rfl _ _ 22 rfl H 5 i0 (.int .u8 0) 1 Tryz.underlying22 HI.out HZ.out HS.out .i64 .i64 _ len rfl rfl rfl (by rw [HB.out];omega) (by unfold maxLen;omega) (by omega) ?_;intro w2 hown hgrow)
 obtain ⟨G,hG⟩:∃G,G=w1.heap.size:=⟨_,rfl⟩
 obtain ⟨X,hX⟩:∃X,X=w2.heap.size:=⟨_,rfl⟩
 have hs2:w1.heap.size≤w2.heap.size:=hgrow.size
 have hgX:g<X:=by have:=hC.lt;omega
 have hGg:H≤g:=by omega
 refine wp_forget (fun W0=>W0.heap.size=X+1∧Own W0 H 5 1 (some ⟨G,0,none⟩) 0 len []∧Blk W0 g (fA 688 (cph key)) 233∧Blk W0 (H+1) (fA 12 nonce) 175∧Blk W0 X (fA 16 fun _=>0#8) 169∧Below H w W0) ⟨by simp [hX],by rw [hG];exact Own.alloc hown _,(hC.grown hgrow (by simp)).alloc _,(hN1.grown hgrow (by simp)).alloc _,by rw [hX];exact Blk.new _ _ _,(hb01.grown hgrow (by omega) (by simp)).alloc (by omega) _⟩ ?_
 rw [←hG,←hX]
 have hHX:H+2≤X:=by omega
 clear hC hN1 hb01 hown hgrow hs1 hs2 hg hG hX
 rintro w3 ⟨hs,hO,hC,hN,hX,hb⟩
 have HS3:=Lib.hid hs
 clear hs
 have q1:=all16 X
 have q2:=all12 (H+1)
 refine wp_region_treeB X (.step 0 (.step 1 (.step 2 .done))) (by kernel_rfl) (by kernel_rfl) (fun c a d v w h=>by cases d<;>exact h) ?_
 repeat (first|(refine tree_skip rfl (by rfl) ?_;simp only [Act.put,List.setIfInBounds_toArray,List.set])|(refine tree_quiet (v:= ?_) rfl rfl (by rfl) ?_ ?_;rotate_left;(intro W hW;go_simp);(try with_reducible rfl);simp only [Act.put,List.setIfInBounds_toArray,List.set]))
 refine tree_loud rfl rfl (by rfl) (fun K hK=> ?_)
 refine wp_copy_row (.tmp 23) (.tmp 24) 22 22 rfl Tryz.underlying22 u8InfoA rfl rfl hX.drew (cs:=fL 12 nonce) (by rw [fL_length];rfl) (RowAt.src (vs:=fL 12 nonce) (RowAt.mk hN.drew.cells) 12|>fun h j v hv=>h j v (by rwa [List.take_of_length_le (by simp [fL_length])])) (by simp [fL_length,fA_size]) (by simp [fL,fv,Value.oneCell']) ?_
 refine hK _ _ (But.setRow _ _) ?_
 clear hK K q1 q2
 refine tree_done ?_
 rw [splice_nonce]
 go_wp2_with fail
 rw [HS3.out]
 refine wp_forget (fun W0=>StIn w H g X (X+1) key nonce l 0 (some ⟨G,0,none⟩) len (fun j=>if j<12 then nonce j else 0#8) (fun _=>0#8) W0) ?_ ?_
 ·exact ⟨(hO.drew.setRow_apart hX.drew (by decide) _).alloc _,(hC.drew.setRow_other _ _ (by omega)).alloc _,(hX.drew.setRow _).alloc _,by have:=Blk.new (w3.drew.setRow X (fA 16 fun j=>if j<12 then nonce j else 0#8)) (fA 16 fun _=>0#8) 169;rwa [show (w3.drew.setRow X (fA 16 fun j=>if j<12 then nonce j else 0#8)).heap.size=X+1 from (by simpa [World.setRow] using HS3.out)] at this,(below_setRow hb.drew (by omega) _).alloc (by simp [World.setRow];have:=HS3.out;omega) _⟩
 clear hO hC hN hX hb HS3
 rintro w4 hin
 obtain ⟨Y,hY⟩:∃Y,Y=X+1:=⟨_,rfl⟩
 rw [←hY] at hin⊢
 have hXY:X<Y:=by omega
 clear hY
 go_loopg [9,28] len (StRel w H g X Y key nonce l)
 case atStart=>
  have:=HL.out
  exact ⟨0,_,_,_,_,by omega,rfl,rfl,fun j hj=>by rw [if_pos hj],fun h=>absurd rfl h,hin⟩
 case round=>
  clear hin
  obtain ⟨k,oa,oc,xs,ys,hf,rfl,rfl,hxs,hys,hin⟩:=hrel
  have HF:=Lib.hid hf
  have HX:=Lib.hid hxs
  have HY:=Lib.hid hys
  by_cases hlt:k<len
  ·have tk:decide ((k:Int)<(len:Int))=true:=by simp;omega
   have hkl:k<l.length:=by rw [HL.out];exact hlt
   clear hf hxs hys
   obtain ⟨b,o,hab,hcell⟩:=(hl.below (HH.out▸hin.below)).at (by omega)
   subst hab
   have hc:wr.cell? ⟨b,o+k,none⟩=some (.int .u8 (B8 l[k].toBitVec)):=hcell k hkl
   clear hcell
   by_cases h16:k%16=0
   ·have t16:((k:Int)%16==0)=true:=by simp;omega
    clear h16
    go_wp2_with fail
    clear t16
    obtain ⟨g0,rfl⟩:∃g:Nat,g=gk:=⟨_,rfl⟩
    go_loopg [36] 4 (CtRel w H g X Y key nonce l k oa oc xs ys)
    case atStart=>exact ⟨0,by omega,rfl,⟨hin.own,hin.cph,hin.x.ofF fun i hi=>by
     by_cases h:i<12
     ·rw [if_pos h,HX.out i h]
     ·rw [if_neg h,if_neg (by omega)],hin.y,hin.below⟩⟩
    case round=>
     clear hin hc
     obtain ⟨m,hf,rfl,hin⟩:=hrel
     have HM:=Lib.hid hf
     have hcs:m=0∨m=1∨m=2∨m=3∨m=4:=by omega
     clear hf
     rcases hcs with rfl|rfl|rfl|rfl|rfl
     ·have r1:=hin.x.rule
      have f1:=hin.x.free
      have c1:=fA_at (n:=16) (i:=12) (fun i=>if i<12 then nonce i else if i<12+0 then ctr nonce (k/16) i else xs i) (by omega)
      go_wp2_with fail
      clear r1 f1 c1
      go_roundg (gk-1)
      case rel=>exact ⟨1,by have:=HM.out;omega,rfl,hin.own.setCell_apart hin.x (by decide) _ _,hin.cph.other _ _ (by show g≠X;omega),ct_step (by omega) (by omega) hin.x (ctr_b0 nonce k (by omega)),hin.y.other _ _ (by show Y≠X;omega),hin.below.setCell (by show H≤X;omega) _⟩
      case measure=>have:=HM.out;omega
     ·have r1:=hin.x.rule
      have f1:=hin.x.free
      have c1:=fA_at (n:=16) (i:=13) (fun i=>if i<12 then nonce i else if i<12+1 then ctr nonce (k/16) i else xs i) (by omega)
      go_wp2_with fail
      clear r1 f1 c1
      go_roundg (gk-1)
      case rel=>exact ⟨2,by have:=HM.out;omega,rfl,hin.own.setCell_apart hin.x (by decide) _ _,hin.cph.other _ _ (by show g≠X;omega),ct_step (by omega) (by omega) hin.x (ctr_b1 nonce k (by omega)),hin.y.other _ _ (by show Y≠X;omega),hin.below.setCell (by show H≤X;omega) _⟩
      case measure=>have:=HM.out;omega
     ·have r1:=hin.x.rule
      have f1:=hin.x.free
      have c1:=fA_at (n:=16) (i:=14) (fun i=>if i<12 then nonce i else if i<12+2 then ctr nonce (k/16) i else xs i) (by omega)
      go_wp2_with fail
      clear r1 f1 c1
      go_roundg (gk-1)
      case rel=>exact ⟨3,by have:=HM.out;omega,rfl,hin.own.setCell_apart hin.x (by decide) _ _,hin.cph.other _ _ (by show g≠X;omega),ct_step (by omega) (by omega) hin.x (ctr_b2 nonce k (by omega)),hin.y.other _ _ (by show Y≠X;omega),hin.below.setCell (by show H≤X;omega) _⟩
      case measure=>have:=HM.out;omega
     ·have r1:=hin.x.rule
      have f1:=hin.x.free
      have c1:=fA_at (n:=16) (i:=15) (fun i=>if i<12 then nonce i else if i<12+3 then ctr nonce (k/16) i else xs i) (by omega)
      go_wp2_with fail
      clear r1 f1 c1
      go_roundg (gk-1)
      case rel=>exact ⟨4,by have:=HM.out;omega,rfl,hin.own.setCell_apart hin.x (by decide) _ _,hin.cph.other _ _ (by show g≠X;omega),ct_step (by omega) (by omega) hin.x (by first|exact ctr_b3 nonce k|exact ctr_b3' nonce k),hin.y.other _ _ (by show Y≠X;omega),hin.below.setCell (by show H≤X;omega) _⟩
      case measure=>have:=HM.out;omega
     ·have hin4:StIn w H g X Y key nonce l k oa oc (ctr nonce (k/16)) ys wr:=⟨hin.own,hin.cph,hin.x.ofF fun i hi=>ctr_all nonce _ i hi,hin.y,hin.below⟩
      clear hin
      have hx4:=hin4.x
      go_wp2_with (refine wpList_load_blk rfl 169 agg16 _ rfl rfl hx4 (fA_size _ _) ?_)
      refine (ablock_any g (ctr nonce (k/16)) key _ hin4.cph).mono ?_
      rintro e w5 ⟨rfl,hb5⟩
      clear hx4
      have hy5:=hin4.y.old hb5
      go_upto_region 18 with (refine wpList_store_blk rfl 169 agg16 (.tmp 11) _ rfl rfl rfl hy5 (fA_size _ _) (fA_size _ _) (fA_one _ _) ?_)
      refine wp_forget (fun W0=>StIn w H g X Y key nonce l k oa oc (ctr nonce (k/16)) (enc key (ctr nonce (k/16))) W0) ⟨(hin4.own.old hb5).setRow_apart hy5 (by decide) _,(hin4.cph.old hb5).setRow_other _ _ (by omega),(hin4.x.old hb5).setRow_other _ _ (by omega),hy5.setRow _,below_setRow (hin4.below.trans (hb5.mono (by have:=hin4.x.lt;omega))) (by omega) _⟩ ?_
      clear hin4 hb5 hy5
      rintro w6 hin5
      have hy:=hin5.y.atF (show k%16<16 by omega) rfl
      have hH5:H≤w6.heap.size:=by have:=hin5.x.lt;omega
      go_wp2_with (at_builtin;refine wpList_append_row rfl _ _ 22 rfl bytesT5 rfl (hin5.own.alloc _) rfl (RowAt.new' _ _ _ _ (by simp)) (by rfl) (by exact all_one _ rfl) (by unfold maxLen;omega) (by omega) (by simp;omega) ?_)
      intro oa' oc' w7 hown7 hg7
      go_wp2_with fail
      go_roundg (g0-1)
      case rel=>exact st_next hkl HF.out hH5 (fun j hj=>by rw [ctr,if_pos hj]) hin5 hown7 hg7
      case measure=>have:=HF.out;omega
   ·have t16:((k:Int)%16==0)=false:=by simp;omega
    have hin5:StIn w H g X Y key nonce l k oa oc xs (enc key (ctr nonce (k/16))) wr:=⟨hin.own,hin.cph,hin.x,hin.y.ofF fun j hj=>HY.out h16 j hj,hin.below⟩
    clear hin
    obtain ⟨w6,rfl⟩:∃w6:World,w6=wr:=⟨_,rfl⟩
    have hy:=hin5.y.atF (show k%16<16 by omega) rfl
    have hH5:H≤w6.heap.size:=by have:=hin5.x.lt;omega
    go_wp2_with (at_builtin;refine wpList_append_row rfl _ _ 22 rfl bytesT5 rfl (hin5.own.alloc _) rfl (RowAt.new' _ _ _ _ (by simp)) (by rfl) (by exact all_one _ rfl) (by unfold maxLen;omega) (by omega) (by simp;omega) ?_)
    intro oa' oc' w7 hown7 hg7
    go_wp2_with fail
    go_roundg (gk-1)
    case rel=>exact st_next hkl HF.out hH5 HX.out hin5 hown7 hg7
    case measure=>have:=HF.out;omega
  ·have hf:=HF.out
   have hlen:=HL.out
   have tk:decide ((k:Int)<(len:Int))=false:=by simp;omega
   obtain rfl:k=len:=by omega
   clear hf hxs hys hlen
   go_wp2_with fail
   go_ret2
   refine ⟨oa,oc,rfl,?_,HH.out▸hin.below⟩
   have e:=HL.out
   rw [stm,e,←HH.out]
   exact hin.own
end
section
open Go.RowKit
def nCipher:List UInt8:=[99,105,112,104,101,114]
def nTag:List UInt8:=[116,97,103]
def ckey (m:List UInt8) (g i:Nat):UInt8:=dgb (hout m (keyb nCipher 6 g)) i
def tkey (m:List UInt8) (g i:Nat):UInt8:=dgb (hout m (keyb nTag 3 g)) i
def ckB (m:List UInt8) (g:Nat):Nat→BitVec 8:=fun i=>(ckey m g i).toBitVec
def tkL (m:List UInt8) (g:Nat):List UInt8:=(List.range 32).map (tkey m g)
def nonL (g n:Nat):List UInt8:=(be64 g).drop 4++be64 n
def nonB (g n:Nat):Nat→BitVec 8:=fun i=>((nonL g n).getD i 0).toBitVec
def markL (m:List UInt8) (g n:Nat) (c:List UInt8):List UInt8:=hout (tkL m g) (be64 g++be64 n++c)
def sealL (m:List UInt8) (g n:Nat) (b:List UInt8):List UInt8:=stm (ckB m g) (nonB g n) b++dgl (markL m g n (stm (ckB m g) (nonB g n) b))
def sizeI (x:Int):Int:=if x<0∨65504<x then 0 else x+32
theorem tkL_length (m:List UInt8) (g:Nat):(tkL m g).length=32:=by simp [tkL]
theorem nonL_length (g n:Nat):(nonL g n).length=12:=by simp [nonL,be64_length]
theorem size_any (x:Int) (h1: -9223372036854775808≤x) (h2:x≤9223372036854775807) (w:World):Calls Tryz.prog 111 #[.int .i64 x] w fun e w'=>e= .returned (.int .i64 (sizeI x))∧w=w':=by
 obtain ⟨S,hS⟩:∃S,S=sizeI x:=⟨_,rfl⟩
 rw [←hS]
 have HS:=Lib.hid hS
 clear hS
 by_cases a:x<0
 ·have t1:decide (x<0)=true:=decide_eq_true a
  have e:S=0:=by rw [HS.out,sizeI,if_pos (.inl a)]
  have HE:=Lib.hid e
  clear e
  go_enter Tryz.func111,Tryz.ntmps111
  go_wp2_with fail
  go_ret
  exact ⟨by rw [HE.out];rfl,rfl⟩
 ·have t1:decide (x<0)=false:=decide_eq_false a
  by_cases b:65504<x
  ·have t2:decide (65504<x)=true:=decide_eq_true b
   have e:S=0:=by rw [HS.out,sizeI,if_pos (.inr b)]
   have HE:=Lib.hid e
   clear e
   go_enter Tryz.func111,Tryz.ntmps111
   go_wp2_with fail
   go_ret
   exact ⟨by rw [HE.out];rfl,rfl⟩
  ·have t2:decide (65504<x)=false:=decide_eq_false b
   have e:S=x+32:=by rw [HS.out,sizeI,if_neg (by omega)]
   have HE:=Lib.hid e
   clear e
   have x0:0≤x:=by omega
   have x1:x≤65504:=by omega
   go_enter Tryz.func111,Tryz.ntmps111
   go_wp2_with fail
   go_ret
   exact ⟨by rw [HE.out];rfl,rfl⟩
theorem grown_more {a b c:World} {x y:Option Nat} (h:a.grownBy b x) (k:b.grownBy c y) (hy:y=x∨y=none∨∃g,y=some g∧a.heap.size≤g):a.grownBy c x:=
 ⟨k.os.trans h.os,k.tape.trans h.tape,k.output.trans h.output,Nat.le_trans h.size k.size,fun i hi hn=>(k.block i (Nat.lt_of_lt_of_le hi h.size) (by
  rcases hy with rfl|rfl|⟨g,rfl,hg⟩
  ·exact hn
  ·simp
  ·simp;omega)).trans (h.block i hi hn)⟩
theorem be64_snoc8 (n t:Nat) (h:t<8):(be64 n).take (t+1)=(be64 n).take t++ [be64b n t]:=by
 rw [List.take_succ_eq_append_getElem (by rw [be64_length];exact h)]
 simp [be64]
theorem qGrowAlloc {a b:World} {x:Option Nat} (h:a.grownBy b x) (o:Obj):a.grownBy (b.alloc o) x:=only_alloc h o
def Se1 (w:World) (B n0 g:Nat) (l:List UInt8) (a0:Option Addr) (c0:Nat) (f:Nat) (v i:Value) (wr:World):Prop:=
 ∃(t:Nat) (a:Option Addr) (c:Nat),f+t=8∧i= .int .i64 (56-8*(t:Int))∧v= .slice a (n0+t) c∧Mid wr B 5 a (n0+t) c ((l++(be64 g).take t).map bv)∧w.grownBy wr (rowB a0 c0)∧(rowB a c=rowB a0 c0∨∃b,rowB a c=some b∧w.heap.size≤b)
def SeP (w:World) (B n0 g:Nat) (l:List UInt8) (a0:Option Addr) (c0:Nat) (e:Ending) (w':World):Prop:=
 ∃(a:Option Addr) (c:Nat),e= .returned (.slice a (n0+8) c)∧Mid w' B 5 a (n0+8) c ((l++be64 g).map bv)∧w.grownBy w' (rowB a0 c0)∧(rowB a c=rowB a0 c0∨∃b,rowB a c=some b∧w.heap.size≤b)
set_option maxHeartbeats 2000000 in
set_option maxRecDepth 40000 in
theorem seight_any (B n0 g:Nat) (l:List UInt8) (a0:Option Addr) (c0:Nat) (w:World) (hg:g<18446744073709551616) (hm:Mid w B 5 a0 n0 c0 (l.map bv)) (hB:B≤w.heap.size) (hn:n0≤100000):
  Calls Tryz.prog 142 #[.slice a0 n0 c0,.int .u64 (g:Int)] w (SeP w B n0 g l a0 c0):=by
 have hgI:(g:Int)≤18446744073709551615:=by omega
 have hg0:(0:Int)≤(g:Int):=by omega
 have hst:Se1 w B n0 g l a0 c0 8 (.slice a0 n0 c0) (.int .i64 56) w:=⟨0,a0,c0,by omega,rfl,rfl,by simpa using hm,World.grownBy.refl _ _,.inl rfl⟩
 clear hm
 go_enter Tryz.func142,Tryz.ntmps142
 go_wp2_with fail
 go_loopg [0,5] 8 (Se1 w B n0 g l a0 c0)
 case atStart=>exact hst
 case round=>
  clear hst
  obtain ⟨t,a,c,hf,rfl,rfl,ho,hgr,hrw⟩:=hrel
  have HF:=Lib.hid hf
  have HRW:=Lib.hid hrw
  have hs:=hgr.size
  clear hf hrw
  by_cases ht:t<8
  ·obtain ⟨t',ht'⟩:∃t',t'=t+1:=⟨_,rfl⟩
   have HQ:=Lib.hid (ht'▸be64_snoc8 g t ht:(be64 g).take t'=(be64 g).take t++ [be64b g t])
   have HT2:=Lib.hid ht'
   have HE:=Lib.hid fun p=>be64_div g t p
   clear ht'
   have h8:t=0∨t=1∨t=2∨t=3∨t=4∨t=5∨t=6∨t=7:=by omega
   rcases h8 with rfl|rfl|rfl|rfl|rfl|rfl|rfl|rfl
   all_goals
    go_wp2_with (at_builtin;refine wpList_append_mid rfl (.tmp 10) (.tmp 16) 22 rfl bytesT3 rfl (ho.alloc _) rfl (RowAt.new' _ _ _ _ (by simp)) (by rfl) (by exact all_one _ rfl) (by unfold maxLen;omega) (by omega) (by simp;omega) ?_)
    intro a5 c5 w5 hm5 hg5 hr5
    have hgr5:=grown_more (qGrowAlloc hgr _) hg5 (by
     rcases HRW.out with h|⟨b,h,h2⟩
     ·exact .inl h
     ·exact .inr (.inr ⟨b,h,h2⟩))
    have hr6:rowB a5 c5=rowB a0 c0∨∃b,rowB a5 c5=some b∧w.heap.size≤b:=by
     rcases hr5 with h|⟨b,h,h2⟩
     ·rw [h];exact HRW.out
     ·exact .inr ⟨b,h,by omega⟩
    have HR6:=Lib.hid hr6
    clear hg5 hr5 hr6
    go_wp2_with fail
    go_roundg (gk-1)
    case rel=>
     refine ⟨t',a5,c5,by have:=HF.out;have:=HT2.out;omega,by rw [HT2.out];rfl,by rw [HT2.out],?_,hgr5,HR6.out⟩
     rw [HQ.out,←List.append_assoc,HT2.out]
     first
      |(have E:=HE.out _ rfl;simp only [List.map_append,List.map_cons,List.map_nil,bv];rw [←E];simpa [bv] using hm5)
      |(have E:=HE.out 72057594037927936 rfl;have E2:(g:Int)/72057594037927936=U8 (be64b g 0):=by {rw [←E];omega};simpa [bv,E2] using hm5)
      |(have E:=HE.out 1 rfl;have E2:(g:Int)%256=U8 (be64b g 7):=by {rw [←E];omega};simpa [bv,E2] using hm5)
    case measure=>have:=HF.out;omega
  ·obtain rfl:t=8:=by have:=HF.out;omega
   rw [List.take_of_length_le (by rw [be64_length];omega)] at ho
   go_wp2_with fail
   go_ret
   exact ⟨a,c,rfl,ho,hgr,HRW.out⟩
set_option maxHeartbeats 1000000 in
set_option maxRecDepth 40000 in
theorem newkey_any (s:ByteArray) (M G:Nat) (ma:Option Addr) (mn mc:Nat) (m:List UInt8) (g:Nat) (w:World) (hs:s.size≤100) (hM:Blk w M #[.slice ma mn mc] 22) (hG:Blk w G #[.int .u64 (g:Int)] 105) (hm:BytesAt w ma m) (hml:m.length=mn) (hmm:mn<140737488352000) (hg:g<18446744073709551616):
  Calls Tryz.prog 138 #[.string s,.pointer (some ⟨M,0,none⟩),.pointer (some ⟨G,0,none⟩)] w (McOut w m (keyb (strL s) s.size g)):=by
 have HL:=Lib.hid hml
 obtain ⟨H,hH⟩:∃H,H=w.heap.size:=⟨_,rfl⟩
 have HH:=Lib.hid hH
 have hR0:=Blk.new w (vA 32 fun _=> .int .u8 0) 170
 have hw0:=(Below.refl w.heap.size w).alloc (Nat.le_refl _) (.cells (vA 32 fun _=> .int .u8 0) 170)
 rw [←hH] at hR0 hw0
 have hM0:=hM.alloc (.cells (vA 32 fun _=> .int .u8 0) 170)
 have hG0:=hG.alloc (.cells (vA 32 fun _=> .int .u8 0) 170)
 have hm0:=hm.alloc (.cells (vA 32 fun _=> .int .u8 0) 170)
 clear hml hH hM hG hm
 go_enter Tryz.func138,Tryz.ntmps138
 go_upto_region 1 with fail
 rw [←HH.out]
 refine wp_forget (fun W0=>Blk W0 H (vA 32 fun _=> .int .u8 0) 170∧Blk W0 M #[.slice ma mn mc] 22∧Blk W0 G #[.int .u64 (g:Int)] 105∧BytesAt W0 ma m∧Below H w W0) ⟨hR0,hM0,hG0,hm0,hw0⟩ ?_
 clear hR0 hM0 hG0 hm0 hw0
 rintro w1 ⟨hR,hM,hG,hm,hw⟩
 have c0:w1.cell? ⟨M,0,none⟩=some (.slice ma mn mc):=hM.cell rfl
 have c1:w1.cell? ⟨G,0,none⟩=some (.int .u64 (g:Int)):=hG.cell rfl
 have hlt:=hR.lt
 go_wp2_with fail
 refine (mkey_any m ma mn mc s g _ hm HL.out hmm (by omega) hg).mono ?_
 unfold McOut
 rintro e w2 ⟨rfl,hb2⟩
 have hR2:=hR.old hb2
 have hw2:=hw.trans (hb2.mono (Nat.le_of_lt hlt))
 clear hR hM hG hm hw c0 c1 hb2 hlt
 go_wp2_with (refine wpList_store_blk rfl 170 agg32 (.tmp 4) _ (cells:=mcA m (keyb (strL s) s.size g)) rfl rfl rfl hR2 (vA_size _ _) (vA_size _ _) (vA_one fun _ _=>rfl) ?_)
 exact post_blk rfl agg32 rfl (hR2.setRow _) (vA_size _ _) rfl ⟨rfl,HH.out▸below_setRow hw2 (Nat.le_refl _) _⟩
def boxF (m:List UInt8) (g:Nat) (i:Nat):Value:=if i<16 then .int .u8 (B8 (ckB m g i)) else if i<48 then bv (tkey m g (i-16)) else .int .u64 (g:Int)
def BoxAt (w:World) (B:Nat) (m:List UInt8) (g:Nat):Prop:=Blk w B (vA 49 (boxF m g)) 174
section
variable {w w':World} {B:Nat} {m:List UInt8} {g:Nat}
theorem BoxAt.old (h:BoxAt w B m g) (hb:Below w.heap.size w w'):BoxAt w' B m g:=Blk.old h hb
theorem BoxAt.keep (h:BoxAt w B m g) {H:Nat} (hB:B<H) (hb:Below H w w'):BoxAt w' B m g:=Blk.below h hb hB
theorem BoxAt.game (h:BoxAt w B m g):w.cell? ⟨B,48,none⟩=some (.int .u64 (g:Int)):=Blk.atV h (by omega) (by simp [boxF])
theorem BoxAt.tag (h:BoxAt w B m g):BytesAt w (some ⟨B,16,none⟩) (tkL m g):=by
 refine RowAt.mk fun i hi=> ?_
 rw [List.length_map,tkL_length] at hi
 rw [Blk.atV h (show 16+i<49 by omega) rfl,boxF,if_neg (by omega),if_pos (by omega)]
 simp [tkL]
theorem BoxAt.cipher (h:BoxAt w B m g):∀j (hj:j<(fL 16 (ckB m g)).length),w.cell? ⟨B,0+j,none⟩=some (fL 16 (ckB m g))[j]:=by
 intro j hj
 have hj':j<16:=by simpa [fL] using hj
 rw [Nat.zero_add,Blk.atV h (show j<49 by omega) rfl,boxF,if_pos hj']
 simp [fL,fv]
end
def NonP (w:World) (g n:Nat) (e:Ending) (w':World):Prop:=e= .returned (.agg (fA 12 (nonB g n)))∧Below w.heap.size w w'
theorem len12b:Tryz.prog.arrayLen 175=12:=by kernel_rfl
theorem elem12b:Tryz.prog.elem 175=5:=by kernel_rfl
theorem arr12b:Tryz.prog.underlying 175=some (.array (Tryz.prog.arrayLen 175) (Tryz.prog.elem 175)):=by rw [len12b,elem12b];exact Tryz.underlying175
theorem all12b (b:Nat) (W:World):(Instr.sliceAt 175 (.pointer (some ⟨b,0,none⟩)) none none none).run Tryz.prog W= .ok (.slice (some ⟨b,0,none⟩) 12 12) W:=by
 rw [run_sliceAt_array_all W _ _ arr12b,elem12b,sized_run u8Info,len12b]
 simp [slicedAt];rfl
theorem zero12b:(Tryz.prog.info? 175).bind (·.zero)=some (.agg (vA 12 fun _=> .int .u8 0)):=by kernel_rfl
theorem nonA (g n:Nat):(vA 12 fun i=>bv ((nonL g n).getD i 0))=fA 12 (nonB g n):=by
 unfold vA vL fA fL
 congr 1
set_option maxHeartbeats 2000000 in
set_option maxRecDepth 100000 in
theorem nonce_any (B:Nat) (m:List UInt8) (g n:Nat) (w:World) (hB:BoxAt w B m g) (hg:g<18446744073709551616) (hn:n<18446744073709551616):
  Calls Tryz.prog 113 #[.pointer (some ⟨B,0,none⟩),.int .u64 (n:Int)] w (NonP w g n):=by
 obtain ⟨H,hH⟩:∃H,H=w.heap.size:=⟨_,rfl⟩
 have HH:=Lib.hid hH
 have hlt:=hB.lt
 rw [←hH] at hlt
 have hR0:=Blk.new w (vA 12 fun _=> .int .u8 0) 175
 have hw0:=(Below.refl w.heap.size w).alloc (Nat.le_refl _) (.cells (vA 12 fun _=> .int .u8 0) 175)
 rw [←hH] at hR0 hw0
 have hB0:=hB.old ((Below.refl w.heap.size w).alloc (Nat.le_refl _) (.cells (vA 12 fun _=> .int .u8 0) 175))
 have hz:=zero_run zero12b
 clear hH hB
 go_enter Tryz.func113,Tryz.ntmps113
 go_upto_region 1 with fail
 clear hz
 rw [←HH.out]
 refine wp_forget (fun W0=>Blk W0 H (vA 12 fun _=> .int .u8 0) 175∧BoxAt W0 B m g∧Below H w W0) ⟨hR0,hB0,hw0⟩ ?_
 clear hR0 hB0 hw0
 rintro w1 ⟨hR,hB,hw⟩
 have q1:=all12b H
 have C0:Hid (∀W,Kept H w1.drew W→W.cell? ⟨B,48,none⟩=some (.int .u64 (g:Int))):=Lib.hid fun W hW=>(BoxAt.keep (w:=w1.drew) hB hlt hW).game
 have hszH:=hR.lt
 refine wp_region_kept H (0::1::2::3::4::7::5::6::8::9::[]) (by kernel_rfl) (by kernel_rfl) (fun c a d v w h=>by cases d<;>exact h) ?_
 repeat (first|(refine kept_quiet (v:= ?_) rfl rfl (by rfl) ?_ ?_;rotate_left;(intro W hW;go_simp);(try with_reducible rfl);simp only [Act.put,List.setIfInBounds_toArray,List.set])|(refine kept_skip rfl (by rfl) ?_;simp only [Act.put,List.setIfInBounds_toArray,List.set]))
 refine kept_quiet (v:= .int .u64 (g:Int)) rfl rfl (by rfl) (fun W hW=>by have:=C0.out W hW;go_simp) ?_
 simp only [Act.put,List.setIfInBounds_toArray,List.set]
 repeat (first|(refine kept_quiet (v:= ?_) rfl rfl (by rfl) ?_ ?_;rotate_left;(intro W hW;go_simp);(try with_reducible rfl);simp only [Act.put,List.setIfInBounds_toArray,List.set])|(refine kept_skip rfl (by rfl) ?_;simp only [Act.put,List.setIfInBounds_toArray,List.set]))
 refine kept_loud rfl rfl (by rfl) (fun K hK=> ?_)
 go_wp2_with fail
 refine (seight_any (H+1) 0 g [] none 0 _ hg (Mid.nil' _ _ _) (by exact hszH) (by omega)).mono ?_
 rintro e w2 ⟨a2,c2,rfl,hm2,hgr2,hr2⟩
 go_wp2_with fail
 have hk2:Kept H w1.drew w2:=(Below.refl H w1.drew).grown hgr2 (Nat.le_of_lt hszH) (by simp [rowB])
 refine hK _ _ hk2 ?_
 clear hK K
 have hR2:=hR.drew.grown hgr2 (by simp [rowB])
 have hc8:=hm2.le
 have hm4:=hm2.cut 4 (by omega)
 have hlen4:(be64 g).length=8:=be64_length g
 refine kept_quiet (v:= .slice (cutA a2 c2 4) 4 (c2-4)) rfl rfl (by rfl) (fun W hW=>by
  have:=run_cut_from (P:=Tryz.prog) Tryz.underlying22 u8Info a2 8 c2 4 (by omega) W
  unfold execOp
  simp only [Act.eval,Option.map]
  first
   |exact (by simpa using congrArg (fun r=>r.andThen fun v w=>Result.ok (Next.value v) w) this)
   |(unfold cutA;go_simp)) ?_
 simp only [Act.put,List.setIfInBounds_toArray,List.set]
 have hsz2:H+1≤w2.heap.size:=by have:=hgr2.size;have e:w1.drew.heap.size=w1.heap.size:=rfl;omega
 have hl4:((be64 g).map bv).drop 4=((be64 g).drop 4).map bv:=List.map_drop.symm
 have hm4':Mid w2 (H+1) 5 (cutA a2 c2 4) 4 (c2-4) (((be64 g).drop 4).map bv):=by
  rw [←hl4];simpa using hm4
 have hrow4:=rowB_cut a2 c2 4
 have hrr:∀r,rowB (cutA a2 c2 4) (c2-4)=some r→H+1≤r:=fun r hr=>(hm4'.lt hr).1
 clear hm4 hm2 hl4 hlen4
 refine kept_loud rfl rfl (by rfl) (fun K hK=> ?_)
 go_wp2_with fail
 refine (seight_any (H+1) 4 n ((be64 g).drop 4) _ _ _ hn hm4' hsz2 (by omega)).mono ?_
 rintro e w3 ⟨a3,c3,rfl,hm3,hgr3,-⟩
 go_wp2_with fail
 have hk3:Kept H w2 w3:=(Below.refl H w2).grown hgr3 (by omega) (fun r hr=>by have:=hrr r hr;omega)
 refine hK _ _ hk3 ?_
 clear hK K
 have hR3:=hR2.grown hgr3 (fun e=>by have:=hrr H e;omega)
 have hw3:Below H w w3:=(hw.drew.trans hk2).trans hk3
 have hl12:((be64 g).drop 4++be64 n).length=12:=nonL_length g n
 have hrd:BytesAt w3 a3 (nonL g n):=hm3.read
 obtain ⟨r3,o3,rfl,_⟩:=hrd.at (by rw [nonL_length];omega)
 have hsp:splice (vA 12 fun _=>Value.int .u8 0) 0 ((nonL g n).map bv).toArray=vA 12 fun i=>bv ((nonL g n).getD i 0):=by
  rw [list_vA,nonL_length]
  exact splice_whole _ _ (by rw [vA_size,vA_size])
 have HSP:=Lib.hid hsp
 clear hm3 hgr3 hm4' hrow4 hrr hk2 hk3 hR2 hgr2 hr2 hsp hl12 hsz2 hR hB
 refine kept_loud rfl rfl (by rfl) (fun K hK=> ?_)
 refine wp_copy_row _ _ 22 22 rfl Tryz.underlying22 u8Info rfl rfl hR3 (cs:=(nonL g n).map bv) (by rw [List.length_map,nonL_length];rfl) (RowAt.all hrd) (by rw [List.length_map,nonL_length,vA_size];omega) (bv_one _) ?_
 rw [HSP.out]
 refine hK _ _ (below_setRow (Below.refl _ _) (Nat.le_refl _) _) ?_
 clear hK K
 refine kept_nil ?_
 have hR4:=hR3.setRow (vA 12 fun i=>bv ((nonL g n).getD i 0))
 have hw4:=below_setRow hw3 (Nat.le_refl H) (vA 12 fun i=>bv ((nonL g n).getD i 0))
 rw [nonA] at hR4 hw4⊢
 refine g_forget (fun W0=>Blk W0 H (fA 12 (nonB g n)) 175∧Below H w W0) ⟨hR4,hw4⟩ ?_
 clear hR3 hw3 hR4 hw4 hrd HSP hw
 rintro w5 ⟨hR,hw⟩
 go_wp2_with (first|refine wpList_load_blk rfl 175 agg12 _ rfl rfl hR (fA_size _ _) ?_|refine wpList_store_blk rfl 175 agg12 (.tmp 4) _ (cells:=fA 12 (nonB g n)) rfl rfl rfl hR (fA_size _ _) (fA_size _ _) (fA_one _ _) ?_)
 exact post_blk rfl agg12 rfl (hR.setRow _) (fA_size _ _) rfl ⟨rfl,HH.out▸below_setRow hw (Nat.le_refl _) _⟩
theorem all32o (b o:Nat) (W:World):(Instr.sliceAt 170 (.pointer (some ⟨b,o,none⟩)) none none none).run Tryz.prog W= .ok (.slice (some ⟨b,o,none⟩) 32 32) W:=by
 rw [run_sliceAt_array_all W _ _ arr32b,elem32b,sized_run u8Info,len32b]
 simp [slicedAt];rfl
def MarP (w:World) (m:List UInt8) (g n:Nat) (c:List UInt8) (e:Ending) (w':World):Prop:=e= .returned (.agg (dgA (markL m g n c)))∧Below w.heap.size w w'
set_option maxHeartbeats 2000000 in
set_option maxRecDepth 100000 in
theorem mark_any (B:Nat) (m:List UInt8) (g n:Nat) (ca:Option Addr) (cn cc:Nat) (c:List UInt8) (w:World) (hB:BoxAt w B m g) (hc:BytesAt w ca c) (hcl:c.length=cn) (hcm:cn≤100000) (hg:g<18446744073709551616) (hn:n<18446744073709551616):
  Calls Tryz.prog 114 #[.pointer (some ⟨B,0,none⟩),.int .u64 (n:Int),.slice ca cn cc] w (MarP w m g n c):=by
 have HC:=Lib.hid hcl
 obtain ⟨H,hH⟩:∃H,H=w.heap.size:=⟨_,rfl⟩
 have HH:=Lib.hid hH
 have hlt:=hB.lt
 rw [←hH] at hlt
 have hbb:=(Below.refl w.heap.size w).alloc (Nat.le_refl _) (.cells (vA 32 fun _=> .int .u8 0) 170)
 have hR0:=Blk.new w (vA 32 fun _=> .int .u8 0) 170
 have hB0:=hB.old hbb
 have hw0:=hbb
 rw [←hH] at hR0 hw0
 have hc0:=Lib.hid hc
 clear hcl hH hB hc hbb
 go_enter Tryz.func114,Tryz.ntmps114
 go_upto_region 1 with fail
 rw [←HH.out]
 refine wp_forget (fun W0=>Blk W0 H (vA 32 fun _=> .int .u8 0) 170∧BoxAt W0 B m g∧Below H w W0) ⟨hR0,hB0,hw0⟩ ?_
 clear hR0 hB0 hw0
 rintro w1 ⟨hR,hB,hw⟩
 have q1:=all32o B 16
 have C0:Hid (∀W,Kept H w1.drew W→W.cell? ⟨B,48,none⟩=some (.int .u64 (g:Int))):=Lib.hid fun W hW=>(BoxAt.keep (w:=w1.drew) hB hlt hW).game
 have hszH:=hR.lt
 refine wp_region_kept H (0::1::2::3::4::5::6::7::8::10::12::9::11::13::14::15::[]) (by kernel_rfl) (by kernel_rfl) (fun c a d v w h=>by cases d<;>exact h) ?_
 repeat (first|(refine kept_quiet (v:= ?_) rfl rfl (by rfl) ?_ ?_;rotate_left;(intro W hW;go_simp);(try with_reducible rfl);simp only [Act.put,List.setIfInBounds_toArray,List.set])|(refine kept_skip rfl (by rfl) ?_;simp only [Act.put,List.setIfInBounds_toArray,List.set]))
 refine kept_quiet (v:= .int .u64 (g:Int)) rfl rfl (by rfl) (fun W hW=>by have:=C0.out W hW;go_simp) ?_
 simp only [Act.put,List.setIfInBounds_toArray,List.set]
 repeat (first|(refine kept_quiet (v:= ?_) rfl rfl (by rfl) ?_ ?_;rotate_left;(intro W hW;go_simp);(try with_reducible rfl);simp only [Act.put,List.setIfInBounds_toArray,List.set])|(refine kept_skip rfl (by rfl) ?_;simp only [Act.put,List.setIfInBounds_toArray,List.set]))
 refine kept_loud rfl rfl (by rfl) (fun K hK=> ?_)
 go_wp2_with fail
 refine (seight_any (H+1) 0 g [] none 0 _ hg (Mid.nil' _ _ _) (by exact hszH) (by omega)).mono ?_
 rintro e w2 ⟨a2,c2,rfl,hm2,hgr2,-⟩
 go_wp2_with fail
 have hk2:Kept H w1.drew w2:=(Below.refl H w1.drew).grown hgr2 (Nat.le_of_lt hszH) (by simp [rowB])
 refine hK _ _ hk2 ?_
 clear hK K
 have hR2:=hR.drew.grown hgr2 (by simp [rowB])
 have hsz2:H+1≤w2.heap.size:=by have:=hgr2.size;have e:w1.drew.heap.size=w1.heap.size:=rfl;omega
 have hrr:∀r,rowB a2 c2=some r→H+1≤r:=fun r hr=>(hm2.lt hr).1
 clear hgr2
 refine kept_loud rfl rfl (by rfl) (fun K hK=> ?_)
 go_wp2_with fail
 refine (seight_any (H+1) 8 n (be64 g) _ _ _ hn (by simpa using hm2) hsz2 (by omega)).mono ?_
 rintro e w3 ⟨a3,c3,rfl,hm3,hgr3,-⟩
 go_wp2_with fail
 have hk3:Kept H w2 w3:=(Below.refl H w2).grown hgr3 (by omega) (fun r hr=>by have:=hrr r hr;omega)
 refine hK _ _ hk3 ?_
 clear hK K
 have hR3:=hR2.grown hgr3 (fun e=>by have:=hrr H e;omega)
 have hk13:Kept H w1.drew w3:=Below.trans hk2 hk3
 have hsz3:H+1≤w3.heap.size:=by have:=hgr3.size;omega
 have hrr3:∀r,rowB a3 c3=some r→H+1≤r:=fun r hr=>(hm3.lt hr).1
 clear hgr3 hrr hm2 hR2 hk2 hk3 hsz2 hR
 have hcw3:=hc0.out.below (HH.out▸hw.drew.trans hk13)
 refine kept_loud rfl rfl (by rfl) (fun K hK=> ?_)
 refine wp_append_mid _ _ 22 rfl bytesT3 rfl hm3 rfl hcw3 (by rw [List.length_map,HC.out]) (bv_one _) (by unfold maxLen;omega) (by omega) hsz3 ?_
 intro a4 c4 w4 hm4 hgr4 _
 have hk4:Kept H w3 w4:=(Below.refl H w3).grown hgr4 (by omega) (fun r hr=>by have:=hrr3 r hr;omega)
 refine hK _ _ hk4 ?_
 clear hK K
 have hR4:=hR3.grown hgr4 (fun e=>by have:=hrr3 H e;omega)
 have hk14:Kept H w1.drew w4:=Below.trans hk13 hk4
 have hB4:=BoxAt.keep (w:=w1.drew) hB hlt hk14
 have hrd:BytesAt w4 a4 (be64 g++be64 n++c):=by
  have:=hm4.read
  unfold BytesAt
  rw [List.map_append];exact this
 have hlen:(be64 g++be64 n++c).length=8+8+cn:=by rw [List.length_append,List.length_append,be64_length,be64_length,HC.out]
 obtain ⟨bb,hbb⟩:∃bb,bb=be64 g++be64 n++c:=⟨_,rfl⟩
 rw [←hbb] at hlen hrd
 have hmk:dgA (markL m g n c)=mcA (tkL m g) bb:=by rw [hbb];rfl
 have HMK:=Lib.hid hmk
 have HLN:=Lib.hid hlen
 clear hbb hmk hgr4 hrr3 hm3 hm4 hR3 hk13 hk4 hsz3 hcw3 hlen
 simp only [Act.put,List.setIfInBounds_toArray,List.set]
 refine kept_loud rfl rfl (by rfl) (fun K hK=> ?_)
 go_wp2_with fail
 refine (mac_any (tkL m g) bb _ 32 32 _ (8+8+cn) _ _ hB4.tag (tkL_length _ _) (by omega) hrd HLN.out (by omega)).mono ?_
 rintro e w5 ⟨rfl,hb5⟩
 go_wp2_with fail
 have hlt4:=hR4.lt
 refine hK _ _ (hb5.mono (Nat.le_of_lt hlt4)) ?_
 clear hK K
 have hR5:=hR4.old hb5
 have hw5:Below H w w5:=(hw.drew.trans hk14).trans (hb5.mono (Nat.le_of_lt hlt4))
 clear hR4 hk14 hB4 hrd hb5 hlt4
 refine kept_loud rfl rfl (by rfl) (fun K hK=> ?_)
 refine wp_store_at 170 agg32 (.tmp 6) (.tmp 21) rfl rfl rfl hR5 (vA_size _ _) (by rw [vA_size];omega) (vA_one fun _ _=>rfl) ?_
 rw [splice_whole _ _ (by rw [vA_size];exact (vA_size _ _).symm)]
 refine hK _ _ (below_setRow (Below.refl _ _) (Nat.le_refl _) _) ?_
 clear hK K
 refine kept_nil ?_
 have hR6:=hR5.setRow (mcA (tkL m g) bb)
 have hw6:=below_setRow hw5 (Nat.le_refl H) (mcA (tkL m g) bb)
 go_wp2_with fail
 exact post_blk rfl agg32 rfl hR6 (vA_size _ _) rfl ⟨by rw [HMK.out],HH.out▸hw6⟩
end
end Go.Proofs.YtioigihakjlopaaGreat

import Derived.Test.YtioigihakjlopaaGreatVF18
import Derived.Test.YtioigihakjlopaaGreatVF22
namespace Go.Proofs.YtioigihakjlopaaGreat
open Go.Proofs.Tryz
set_option linter.unusedVariables false
set_option linter.unusedSimpArgs false
set_option maxHeartbeats 16000000
set_option maxRecDepth 100000
section
open Go.RowKit
attribute [local go_sem] dn dp dL bN
theorem tA (nonce:Nat->BitVec 8) (q m p:Nat) (hp:p=2^(24-8*m)):B8 (ctr nonce q (12+m))=((q/p%256:Nat):Int):=by
 rw [ctr,if_neg oA,show 12+m-12=m by omega,<-hp];show (((BitVec.ofNat 8 (q/p)).toNat:Nat):Int)=_;rw [We]
theorem LL (nonce:Nat->BitVec 8) (q:Nat) (_h:q<4096):(q:Int)/16777216=B8 (ctr nonce q (12+0)):=by rw [tA nonce q 0 16777216 rfl];omega
theorem LK (nonce:Nat->BitVec 8) (q:Nat) (_h:q<4096):(q:Int)/65536=B8 (ctr nonce q (12+1)):=by rw [tA nonce q 1 65536 rfl];omega
theorem LJ (nonce:Nat->BitVec 8) (q:Nat) (_h:q<4096):(q:Int)/256=B8 (ctr nonce q (12+2)):=by rw [tA nonce q 2 256 rfl];omega
theorem LI (nonce:Nat->BitVec 8) (q:Nat):(q:Int)%256=B8 (ctr nonce q (12+3)):=by rw [tA nonce q 3 1 rfl];omega
theorem oI {wr:World} {X q m:Nat} {nonce xs:Nat->BitVec 8} {z:Int} (hm:m<4) (h:Blk wr X (fA 16 (fun i=>if i<12 then nonce i else if i<12+m then ctr nonce q i else xs i)) 169)
  (hz:z=B8 (ctr nonce q (12+m))):Blk (wr.setCell ⟨X,12+m,none⟩ (.int .u8 z)) X (fA 16 (fun i=>if i<12 then nonce i else if i<12+(m+1) then ctr nonce q i else xs i)) 169:=by
 subst hz;refine (h.setF oA (ctr nonce q (12+m))).ofF fun i hi=> ?_;by_cases e:i=12+m
 .subst e;rw [if_pos rfl,if_neg oA,if_pos oA]
 .rw [if_neg e];by_cases h2:i<12
  .rw [if_pos h2,if_pos h2]
  .rw [if_neg h2,if_neg h2];by_cases h3:i<12+m
   .rw [if_pos h3,if_pos oA]
   .rw [if_neg h3,if_neg oA]
structure tJ (w:World) (H Xb:Nat) (key nonce:Nat->BitVec 8) (l:List UInt8) (k:Nat) (oa:Option Addr) (oc:Nat) (wr:World):Prop where
 bkey:Blk wr H (fA 16 key) 169
 bnonce:Blk wr (H+1) (fA 12 nonce) 175
 box:Blk wr Xb (fA 256 rN) 230
 own:Own wr H 5 1 oa k oc ((stk key nonce l k).map bv)
 below:Below H w wr
section
variable {w:World} {H Xb:Nat} {key nonce:Nat->BitVec 8} {l:List UInt8} {k:Nat} {oa:Option Addr} {oc:Nat} {wr wq:World}
theorem tJ.old (h:tJ w H Xb key nonce l k oa oc wr) (hb:Below wr.heap.size wr wq):tJ w H Xb key nonce l k oa oc wq:=
 ⟨h.bkey.old hb,h.bnonce.old hb,h.box.old hb,h.own.old hb,h.below.trans (hb.mono (by have:=h.bkey.lt;omega))⟩
theorem tJ.far (h:tJ w H Xb key nonce l k oa oc wr) {T:Nat} {cs:Array Value} {t:TypeId} (hT:Blk wr T cs t) (ht:t≠5) (h1:H+1<T) (h2:T≠Xb) (i:Nat) (v:Value):tJ w H Xb key nonce l k oa oc (wr.setCell ⟨T,i,none⟩ v):=
 ⟨h.bkey.other _ _ (by show H≠T;omega),h.bnonce.other _ _ (by show H+1≠T;omega),h.box.other _ _ (by show Xb≠T;omega),h.own.setCell_apart hT ht _ _,h.below.setCell (by show H<=T;omega) _⟩
theorem tJ.farRow (h:tJ w H Xb key nonce l k oa oc wr) {T:Nat} {cs:Array Value} {t:TypeId} (hT:Blk wr T cs t) (ht:t≠5) (h1:H+1<T) (h2:T≠Xb) (cs':Array Value):tJ w H Xb key nonce l k oa oc (wr.setRow T cs'):=
 ⟨h.bkey.setRow_other _ _ oA,h.bnonce.setRow_other _ _ oA,h.box.setRow_other _ _ oA,h.own.setRow_apart hT ht _,ag h.below oA _⟩
end
def Rs1 (w:World) (H Xb:Nat) (key nonce:Nat->BitVec 8) (l:List UInt8) (f:Nat) (o i:Value) (wr:World):Prop:=
 ∃(m A k:Nat) (oa:Option Addr) (oc:Nat),f+m=(l.length+15)/16/\A=16*m/\k=min A l.length/\i= .int .i64 (A:Int)/\o= .slice oa k oc/\tJ w H Xb key nonce l k oa oc wr
def Rs2 (w:World) (H Xb X:Nat) (key nonce:Nat->BitVec 8) (l:List UInt8) (k:Nat) (oa:Option Addr) (oc:Nat) (f:Nat) (i:Value) (wr:World):Prop:=
 ∃q:Nat,f+q=12/\i= .int .i64 (q:Int)/\tJ w H Xb key nonce l k oa oc wr/\Blk wr X (fA 16 fun j=>if j<q then nonce j else 0#8) 169
def Rs3 (w:World) (H Xb X m:Nat) (key nonce:Nat->BitVec 8) (l:List UInt8) (k:Nat) (oa:Option Addr) (oc:Nat) (f:Nat) (i:Value) (wr:World):Prop:=
 ∃q:Nat,f+q=4/\i= .int .i64 (q:Int)/\tJ w H Xb key nonce l k oa oc wr/\Blk wr X (fA 16 fun j=>if j<12 then nonce j else if j<12+q then ctr nonce m j else 0#8) 169
def Rs4 (w:World) (H Xb Y m A:Nat) (key nonce:Nat->BitVec 8) (l:List UInt8) (f:Nat) (o i:Value) (wr:World):Prop:=
 ∃(k:Nat) (oa:Option Addr) (oc:Nat),f+k=min (A+16) l.length/\A<=k/\i= .int .i64 (k:Int)/\o= .slice oa k oc/\tJ w H Xb key nonce l k oa oc wr/\Blk wr Y (fA 16 (enc key (ctr nonce m))) 169
theorem Ht {w:World} {H Xb Y:Nat} {key nonce:Nat->BitVec 8} {l:List UInt8} {k:Nat} {oa oa':Option Addr} {oc oc':Nat} {ys:Nat->BitVec 8} {w6 w7:World} (hk:k<l.length) (hH:H<=w6.heap.size)
  (hin:tJ w H Xb key nonce l k oa oc w6) (hY:Blk w6 Y (fA 16 ys) 169) {cs:Array Value} {ty:TypeId} {v:BitVec 8}
  (hown:Own w7 H 5 1 oa' (k+1) oc' ((stk key nonce l k).map bv++ [.int .u8 (B8 (l[k].toBitVec^^^v))]))
  (hg:(w6.alloc (.cells cs ty)).grownBy w7 (Value.slice oa k oc).ownBlock) (he:ksb key nonce k=v):tJ w H Xb key nonce l (k+1) oa' oc' w7/\Blk w7 Y (fA 16 ys) 169:=by
 have hG:l.getD k 0=l[k]:=(by rw [VX,Vx hk];rfl);have kn:=bQ.grown (hin.own.alloc (.cells cs ty)) hg;refine ⟨⟨(hin.bkey.alloc _).keepNot kn dcA,(hin.bnonce.alloc _).keepNot kn dcA,(hin.box.alloc _).keepNot kn dcA,?_,(hin.own.alloc _).grown (hin.below.alloc hH _) (Lt _) hg soA⟩,(hY.alloc _).keepNot kn dcA⟩;rw [xH,VG,hG,he];exact hown
theorem vR (key nonce:Nat->BitVec 8) (a:Option Addr) (len cap:Nat) (l:List UInt8) (w:World) (hl:ah w a l) (hlen:l.length=len) (hm:len<=65536):
  Calls prog 156 #[.agg (fA 16 key),.agg (fA 12 nonce),.slice a len cap] w fun e w'=>∃a' c',e= .returned (.tuple #[.slice a' len c',.int .i64 0])/\Own w' w.heap.size 5 1 a' len c' ((stm key nonce l).map bv)/\Below w.heap.size w w':=by
 have t1:decide ((65536:Int)<(len:Int))=false:=soA;have HL:=Hd hlen;have HZ2:=Hd (jX AB);clear hlen;go_enter func156,ntmps156;go_upto_region 3 with (fail);refine af (fun W0=>Blk W0 w.heap.size (fA 16 key) 169/\Blk W0 (w.heap.size+1) (fA 12 nonce) 175/\Below w.heap.size w W0) ⟨Blk.new2 _ _ _ _,Blk.new2' _ _ _ _,cL⟩ ?_;rintro w0 ⟨hK,hN,hb⟩;obtain ⟨H,hH⟩:=Le w.heap.size;rw [<-hH] at hK hN hb⊢;have HH:=Hd hH;clear hH;go_wp2_with fail;refine (zy _).mono ?_;rintro e w1 ⟨rfl,hb1⟩;replace hb:=hb.trans (hb1.mono (by have:=hK.lt;omega));replace hK:=hK.old hb1;replace hN:=hN.old hb1;clear hb1;have hz1:=HZ2.out;go_upto_region 5 with (refine aa rfl 230 rS (.tmp 8) _ (cells:=fA 256 rN) rfl rfl rfl (Blk.new _ _ _) (aD _ _) (aD _ _) (fj _ _) ?_);clear hz1;obtain ⟨Xb,hXb⟩:=Le w1.heap.size;have hHX:H+1<Xb:=(by have:=hN.lt;omega);have hX0:=Blk.new w1 (fA 256 fun _=>0#8) 230;rw [<-hXb] at hX0⊢;refine af (fun W0=>tJ w H Xb key nonce l 0 none 0 W0) ⟨(hK.alloc _).setRow_other _ _ oA,(hN.alloc _).setRow_other _ _ oA,hX0.setRow _,Own.nil _ _ _ _,ag (hb.alloc oA _) oA _⟩ ?_;clear hK hN hb hXb hX0;rintro w2 hI;go_wp2_with fail;go_loopg [9,10] ((l.length+15)/16) (Rs1 w H Xb key nonce l)
 case atStart=>exact ⟨0,0,0,_,_,oA,rfl,oA,rfl,rfl,hI⟩
 case round=>
  clear hI;obtain ⟨m,A,k,oa,oc,hf,hA,hk,rfl,rfl,hI⟩:=hrel;have hlen:=HL.out;by_cases hlt:A<len
  .have tk:decide ((A:Int)<(len:Int))=true:=soA;obtain rfl:k=A:=oA;have HF:=Hd hf;have HA:=Hd hA;clear hf hk hA hlen;obtain ⟨g0,rfl⟩:∃g:Nat,g=gk:=⟨_,rfl⟩;obtain ⟨X,hX⟩:=Le wr.heap.size;have hXX:Xb<X:=(by have:=hI.box.lt;omega);go_wp2_with fail;refine af (fun W0=>tJ w H Xb key nonce l k oa oc W0/\Blk W0 X (fA 16 fun _=>0#8) 169) ⟨hI.old ((AT _ _).alloc (Lt _) _),by rw [hX];exact Blk.new _ _ _⟩ ?_;rw [<-hX];clear hI hX;rintro w3 ⟨hI,hT⟩;go_loopg [12] 12 (Rs2 w H Xb X key nonce l k oa oc)
   case atStart=>exact ⟨0,oA,rfl,hI,by simpa using hT⟩
   case round=>
    clear hI hT;obtain ⟨q,hf,rfl,hI,hT⟩:=hrel;by_cases hq:q<12
    .have tq:decide ((q:Int)<12)=true:=soA;have HF2:=Hd hf;clear hf;have hqI:(q:Int)<12:=oA;have c0:=hI.bnonce.atF hq (show nonce q=nonce q from rfl);have r3:=hT.rule;have f3:=hT.free;have ck3:=eE (fun j=>if j<q then nonce j else 0#8) (show q<16 by omega);go_wp2_with fail;clear r3 f3 ck3 c0;go_roundg (gk-1)
     case rel=>
      have hf:=HF2.out;exact ⟨q+1,oA,gnA,hI.far hT dcA oA oA _ _,(hT.setF oA (nonce q)).ofF fun i _=>Wn (eY q nonce fun _=>0#8) i⟩
     case measure=>have hf:=HF2.out;omega
    .obtain rfl:q=12:=oA;have tq:decide (((12:Nat):Int)<12)=false:=skA;clear hf;have hmI:(k:Int)/16=(m:Int):=(by have:=HA.out;omega);have hm4:(m:Int)<4096:=(by have:=HA.out;omega);go_wp2_with fail;clear hmI;go_loopg [14] 4 (Rs3 w H Xb X m key nonce l k oa oc)
     case atStart=>exact ⟨0,oA,rfl,hI,hT.ofF fun i _=>by
      by_cases h:i<12
      .rw [if_pos h,if_pos h]
      .rw [if_neg h,if_neg h,if_neg oA]⟩
     case round=>
      clear hI hT;obtain ⟨q,hf,rfl,hI,hT⟩:=hrel;have HM:=Hd hf;have hcs:q=0\/q=1\/q=2\/q=3\/q=4:=oA;clear hf;rcases hcs with rfl|rfl|rfl|rfl|rfl
      .have r1:=hT.rule;have f1:=hT.free;have c1:=eE (n:=16) (i:=12) (fun j=>if j<12 then nonce j else if j<12+0 then ctr nonce m j else 0#8) oA;go_wp2_with fail;clear r1 f1 c1;go_roundg (gk-1)
       case rel=>exact ⟨1,by have:=HM.out;omega,rfl,hI.far hT dcA oA oA _ _,oI oA hT (LL nonce m oA)⟩
       case measure=>have:=HM.out;omega
      .have r1:=hT.rule;have f1:=hT.free;have c1:=eE (n:=16) (i:=13) (fun j=>if j<12 then nonce j else if j<12+1 then ctr nonce m j else 0#8) oA;go_wp2_with fail;clear r1 f1 c1;go_roundg (gk-1)
       case rel=>exact ⟨2,by have:=HM.out;omega,rfl,hI.far hT dcA oA oA _ _,oI oA hT (LK nonce m oA)⟩
       case measure=>have:=HM.out;omega
      .have r1:=hT.rule;have f1:=hT.free;have c1:=eE (n:=16) (i:=14) (fun j=>if j<12 then nonce j else if j<12+2 then ctr nonce m j else 0#8) oA;go_wp2_with fail;clear r1 f1 c1;go_roundg (gk-1)
       case rel=>exact ⟨3,by have:=HM.out;omega,rfl,hI.far hT dcA oA oA _ _,oI oA hT (LJ nonce m oA)⟩
       case measure=>have:=HM.out;omega
      .have r1:=hT.rule;have f1:=hT.free;have c1:=eE (n:=16) (i:=15) (fun j=>if j<12 then nonce j else if j<12+3 then ctr nonce m j else 0#8) oA;go_wp2_with fail;clear r1 f1 c1;go_roundg (gk-1)
       case rel=>exact ⟨4,by have:=HM.out;omega,rfl,hI.far hT dcA oA oA _ _,oI oA hT (LI nonce m)⟩
       case measure=>have:=HM.out;omega
      .replace hT:=hT.ofF (t:=ctr nonce m) fun i hi=>CR nonce (fun _=>0#8) i hi;have hK:=hI.bkey;have hX:=hI.box;go_wp2_with (first|refine am rfl 169 dU (.tmp 3) rfl rfl hK (aD _ _) ?_|refine am rfl 169 dU (.tmp 11) rfl rfl hT (aD _ _) ?_|refine am rfl 230 rS _ rfl rfl hX (aD _ _) ?_);refine (Eo key (ctr nonce m) _).mono ?_;rintro e w4 ⟨rfl,hb4⟩;replace hI:=hI.old hb4;clear hK hX hb4 hT;go_upto_region 20 with (refine aa rfl 169 dU (.tmp 15) _ (cells:=fA 16 (enc key (ctr nonce m))) rfl rfl rfl (Blk.new _ _ _) (aD _ _) rfl (fj _ _) ?_);obtain ⟨Y,hY⟩:=Le w4.heap.size;have hXY:Xb<Y:=(by have:=hI.box.lt;omega);have hY0:=Blk.new w4 (fA 16 fun _=>0#8) 169;rw [<-hY] at hY0⊢;refine af (fun W0=>tJ w H Xb key nonce l k oa oc W0/\Blk W0 Y (fA 16 (enc key (ctr nonce m))) 169) ⟨(hI.old ((AT _ _).alloc (Lt _) _)).farRow hY0 dcA oA oA _,hY0.setRow _⟩ ?_;clear hI hY0 hY;rintro w5 ⟨hI,hY⟩;go_loopg [9,16] (min (k+16) l.length-k) (Rs4 w H Xb Y m k key nonce l)
       case atStart=>exact ⟨k,oa,oc,by have:=HL.out;omega,oA,rfl,rfl,hI,hY⟩
       case round=>
        clear hI hY;obtain ⟨j,oa,oc,hf,hkj,rfl,rfl,hI,hY⟩:=hrel;by_cases hj:j<len
        .have tj:decide ((j:Int)<(len:Int))=true:=soA;by_cases hj2:j<k+16
         .have tj2:decide ((j:Int)<(k:Int)+16)=true:=soA;have hjl:j<l.length:=(by rw [HL.out];exact hj);have HF4:=Hd hf;clear hf;obtain ⟨b,o,hab,hcell⟩:=(hl.below (HH.out▸hI.below)).at oA;subst hab;have hc0:w.cell? ⟨b,o+j,none⟩=some (.int .u8 (B8 l[j].toBitVec)):=by
           obtain ⟨b',o',e1,h1⟩:=hl j (by simpa using hjl);cases e1;simp [bv] at h1;exact h1
          have hbH:b<H:=(by rw [HH.out];exact VV w _ hc0);have hc:wr.drew.cell? ⟨b,o+j,none⟩=some (.int .u8 (B8 l[j].toBitVec)):=hcell j hjl;obtain ⟨d,hd⟩:=Le (j-k);have hd16:d<16:=oA;have hdI:(d:Int)<16:=oA;have e1:IntKind.i64.wrap ((j:Int)-(k:Int))=(d:Int):=(by rw [VD _ oA];omega);have hjI:(j:Int)<(len:Int):=oA;have C1:∀W,Rx H 5 wr.drew W->W.cell? ⟨b,o+j,none⟩=some (.int .u8 (B8 l[j].toBitVec)):=fun W h=>h.cell hbH hc;have C2:∀W,Rx H 5 wr.drew W->W.cell? ⟨Y,d,none⟩=some (.int .u8 (B8 (enc key (ctr nonce m) d))):=fun W h=>(h.blk hY.drew dcA).atF hd16 rfl;have HD:=Hd hd;clear hd hc hcell hc0;go_wp2_with fail;refine oS H 5 (.step 0 (.step 1 (.step 2 (.step 3 (.step 4 (.step 5 (.step 6 (.step 7 (.step 8 (.step 9 (.step 10 (.step 11 (.step 12 (.step 13 .done)))))))))))))) krA krA cdA ?_
          repeat (first|refine tsA ?_|refine tqA ?_)
          have hHs:H<=wr.heap.size:=(by have:=hI.bkey.lt;omega);refine an rfl rfl rfA (fun K hK=> ?_);go_wp2_with fail;refine hK _ _ (Rx.alloc wr.drew hHs _) ?_;clear hK K;refine an rfl rfl rfA (fun K hK=> ?_);refine eh (.tmp 70) (.tmp 81) 22 rfl wY rfl (hI.own.drew.alloc _) rfl (aw.new' _ _ _ _ skA) rfA (by exact dg _ rfl) mxA oA soA ?_;intro oa' oc' w7 hown7 hg7;refine hK _ _ (Rx.grown (hI.own.drew.alloc _) (Lt _) soA hg7) ?_;clear hK K
          repeat (first|refine tsA ?_|refine tqA ?_)
          refine ap ?_;go_wp2_with fail;go_roundg (gk-1)
          case rel=>
           have hf:=HF4.out;obtain ⟨hI',hY'⟩:=Ht (cs:= #[.int .u8 (B8 (l[j].toBitVec^^^enc key (ctr nonce m) d))]) (ty:=5) hjl hHs hI hY hown7 ⟨hg7.os,hg7.tape,hg7.output,hg7.size,hg7.block⟩ (by rw [ksb];have:=HA.out;have:=HD.out;rw [show j/16=m by omega,show j%16=d by omega]);exact ⟨j+1,oa',oc',oA,oA,gnA,rfl,hI',hY'⟩
          case measure=>have hf:=HF4.out;omega
         .have tj2:decide ((j:Int)<(k:Int)+16)=false:=soA;have hlen:=HL.out;obtain rfl:j=k+16:=oA;clear hf;have HL':=Hd hlen;clear hlen;go_wp2_with fail;go_roundg (g0-1)
          case rel=>
           have hf:=HF.out;have hA:=HA.out;have hlen:=HL'.out;exact ⟨m+1,k+16,k+16,oa,oc,oA,oA,oA,gnA,rfl,hI⟩
          case measure=>have hf:=HF.out;have hA:=HA.out;have hlen:=HL'.out;omega
        .have tj:decide ((j:Int)<(len:Int))=false:=soA;have hlen:=HL.out;obtain rfl:len=j:=oA;have hle:len<=k+16:=oA;clear hf;have HL':=Hd hlen;clear hlen;go_wp2_with fail;go_roundg (g0-1)
         case rel=>
          have hf:=HF.out;have hA:=HA.out;have hlen:=HL'.out;exact ⟨m+1,k+16,len,oa,oc,oA,oA,oA,gnA,rfl,hI⟩
         case measure=>have hf:=HF.out;have hA:=HA.out;have hlen:=HL'.out;omega
  .have tk:decide ((A:Int)<(len:Int))=false:=soA;obtain rfl:len=k:=oA;clear hf hA hk;have HL':=Hd hlen;clear hlen;go_wp2_with fail;go_ret2;refine ⟨oa,oc,rfl,?_,HH.out▸hI.below⟩;rw [stm,HL'.out,<-HH.out];exact hI.own
end
section
open Go.RowKit
def jG:List UInt8:=[99,105,112,104,101,114]
def Gh:List UInt8:=[116,97,103]
def Js (m:List UInt8) (g i:Nat):UInt8:=dgb (uR m (qD jG 6 g)) i
def FX (m:List UInt8) (g i:Nat):UInt8:=dgb (uR m (qD Gh 3 g)) i
def ckB (m:List UInt8) (g:Nat):Nat->BitVec 8:=fun i=>(Js m g i).toBitVec
def tkL (m:List UInt8) (g:Nat):List UInt8:=(List.range 32).map (FX m g)
def uG (g n:Nat):List UInt8:=(eJ g).drop 4++eJ n
def pO (g n:Nat):Nat->BitVec 8:=fun i=>((uG g n).getD i 0).toBitVec
def jH (m:List UInt8) (g n:Nat) (c:List UInt8):List UInt8:=uR (tkL m g) (eJ g++eJ n++c)
def gI (m:List UInt8) (g n:Nat) (b:List UInt8):List UInt8:=stm (ckB m g) (pO g n) b++dgl (jH m g n (stm (ckB m g) (pO g n) b))
def mX (x:Int):Int:=if x<0\/65504<x then 0 else x+32
theorem mR (m:List UInt8) (g:Nat):(tkL m g).length=32:=by simp [tkL]
theorem iE (g n:Nat):(uG g n).length=12:=by simp [uG,aL]
theorem so (x:Int) (h1: -9223372036854775808<=x) (h2:x<=9223372036854775807) (w:World):Calls prog 111 #[.int .i64 x] w fun e w'=>e= .returned (.int .i64 (mX x))/\w=w':=by
 obtain ⟨S,hS⟩:=Le (mX x);rw [<-hS];have HS:=Hd hS;clear hS;by_cases a:x<0
 .have t1:decide (x<0)=true:=VO a;have e:S=0:=(by rw [HS.out,mX,if_pos (.inl a)]);have HE:=Hd e;clear e;go_enter func111,ntmps111;go_wp2_with fail;go_ret;exact ⟨by rw [HE.out];rfl,rfl⟩
 .have t1:decide (x<0)=false:=Vd a;by_cases b:65504<x
  .have t2:decide (65504<x)=true:=VO b;have e:S=0:=(by rw [HS.out,mX,if_pos (.inr b)]);have HE:=Hd e;clear e;go_enter func111,ntmps111;go_wp2_with fail;go_ret;exact ⟨by rw [HE.out];rfl,rfl⟩
  .have t2:decide (65504<x)=false:=Vd b;have e:S=x+32:=(by rw [HS.out,mX,if_neg oA]);have HE:=Hd e;clear e;have x0:0<=x:=oA;have x1:x<=65504:=oA;go_enter func111,ntmps111;go_wp2_with fail;go_ret;exact ⟨by rw [HE.out];rfl,rfl⟩
theorem zS {a b c:World} {x y:Option Nat} (h:a.grownBy b x) (k:b.grownBy c y) (hy:y=x\/y=none\/∃g,y=some g/\a.heap.size<=g):a.grownBy c x:=
 ⟨k.os.trans h.os,k.tape.trans h.tape,k.output.trans h.output,At h.size k.size,fun i hi hn=>(k.block i (VF hi h.size) (by
  rcases hy with rfl|rfl|⟨g,rfl,hg⟩
  .exact hn
  .simp
  .simp;omega)).trans (h.block i hi hn)⟩
theorem Ah (n t:Nat) (h:t<8):(eJ n).take (t+1)=(eJ n).take t++ [iL n t]:=by
 rw [VW (by rw [aL];exact h)];simp [eJ]
theorem qGrowAlloc {a b:World} {x:Option Nat} (h:a.grownBy b x) (o:Obj):a.grownBy (b.alloc o) x:=nh h o
def Se1 (w:World) (B n0 g:Nat) (l:List UInt8) (a0:Option Addr) (c0:Nat) (f:Nat) (v i:Value) (wr:World):Prop:=
 ∃(t:Nat) (a:Option Addr) (c:Nat),f+t=8/\i= .int .i64 (56-8*(t:Int))/\v= .slice a (n0+t) c/\Mid wr B 5 a (n0+t) c ((l++(eJ g).take t).map bv)/\w.grownBy wr (bE a0 c0)/\(bE a c=bE a0 c0\/∃b,bE a c=some b/\w.heap.size<=b)
def SeP (w:World) (B n0 g:Nat) (l:List UInt8) (a0:Option Addr) (c0:Nat) (e:Ending) (w':World):Prop:=
 ∃(a:Option Addr) (c:Nat),e= .returned (.slice a (n0+8) c)/\Mid w' B 5 a (n0+8) c ((l++eJ g).map bv)/\w.grownBy w' (bE a0 c0)/\(bE a c=bE a0 c0\/∃b,bE a c=some b/\w.heap.size<=b)
theorem kH (B n0 g:Nat) (l:List UInt8) (a0:Option Addr) (c0:Nat) (w:World) (hg:g<18446744073709551616) (hm:Mid w B 5 a0 n0 c0 (l.map bv)) (hB:B<=w.heap.size) (hn:n0<=100000):
  Calls prog 142 #[.slice a0 n0 c0,.int .u64 (g:Int)] w (SeP w B n0 g l a0 c0):=by
 have hgI:(g:Int)<=18446744073709551615:=oA;have hg0:(0:Int)<=(g:Int):=oA;have hst:Se1 w B n0 g l a0 c0 8 (.slice a0 n0 c0) (.int .i64 56) w:=⟨0,a0,c0,oA,rfl,rfl,by simpa using hm,Vv _ _,.inl rfl⟩;clear hm;go_enter func142,ntmps142;go_wp2_with fail;go_loopg [0,5] 8 (Se1 w B n0 g l a0 c0)
 case atStart=>exact hst
 case round=>
  clear hst;obtain ⟨t,a,c,hf,rfl,rfl,ho,hgr,hrw⟩:=hrel;have HF:=Hd hf;have HRW:=Hd hrw;have hs:=hgr.size;clear hf hrw;by_cases ht:t<8
  .obtain ⟨t',ht'⟩:=Le (t+1);have HQ:=Hd (ht'▸Ah g t ht:(eJ g).take t'=(eJ g).take t++ [iL g t]);have HT2:=Hd ht';have HE:=Hd fun p=>tD g t p;clear ht';have h8:t=0\/t=1\/t=2\/t=3\/t=4\/t=5\/t=6\/t=7:=oA;rcases h8 with rfl|rfl|rfl|rfl|rfl|rfl|rfl|rfl
   all_goals
    go_wp2_with (at_builtin;refine df rfl (.tmp 10) (.tmp 16) 22 rfl dK rfl (ho.alloc _) rfl (aw.new' _ _ _ _ skA) rfA (by exact dg _ rfl) mxA oA soA ?_)
    intro a5 c5 w5 hm5 hg5 hr5
    have hgr5:=zS (qGrowAlloc hgr _) hg5 (by
     rcases HRW.out with h|⟨b,h,h2⟩
     .exact .inl h
     .exact .inr (.inr ⟨b,h,h2⟩))
    have hr6:bE a5 c5=bE a0 c0\/∃b,bE a5 c5=some b/\w.heap.size<=b:=by
     rcases hr5 with h|⟨b,h,h2⟩
     .rw [h];exact HRW.out
     .exact .inr ⟨b,h,oA⟩
    have HR6:=Hd hr6
    clear hg5 hr5 hr6
    go_wp2_with fail
    go_roundg (gk-1)
    case rel=>
     refine ⟨t',a5,c5,by have:=HF.out;have:=HT2.out;omega,by rw [HT2.out];rfl,by rw [HT2.out],?_,hgr5,HR6.out⟩
     rw [HQ.out,<-VM,HT2.out]
     first
      |(have E:=HE.out _ rfl;simp only [VG,WY,XF,bv];rw [<-E];simpa [bv] using hm5)
      |(have E:=HE.out 72057594037927936 rfl;have E2:(g:Int)/72057594037927936=U8 (iL g 0):=by {rw [<-E];omega};simpa [bv,E2] using hm5)
      |(have E:=HE.out 1 rfl;have E2:(g:Int)%256=U8 (iL g 7):=by {rw [<-E];omega};simpa [bv,E2] using hm5)
    case measure=>have:=HF.out;omega
  .obtain rfl:t=8:=(by have:=HF.out;omega);rw [Vj (by rw [aL];omega)] at ho;go_wp2_with fail;go_ret;exact ⟨a,c,rfl,ho,hgr,HRW.out⟩
theorem zH (s:ByteArray) (M G:Nat) (ma:Option Addr) (mn mc:Nat) (m:List UInt8) (g:Nat) (w:World) (hs:s.size<=100) (hM:Blk w M #[.slice ma mn mc] 22) (hG:Blk w G #[.int .u64 (g:Int)] 105) (hm:ah w ma m) (hml:m.length=mn) (hmm:mn<140737488352000) (hg:g<18446744073709551616):
  Calls prog 138 #[.string s,.pointer (some ⟨M,0,none⟩),.pointer (some ⟨G,0,none⟩)] w (vp w m (qD (jW s) s.size g)):=by
 have HL:=Hd hml;obtain ⟨H,hH⟩:=Le w.heap.size;have HH:=Hd hH;have hR0:=Blk.new w (vA 32 fun _=> .int .u8 0) 170;have hw0:=(AT w.heap.size w).alloc (Lt _) (.cells (vA 32 fun _=> .int .u8 0) 170);rw [<-hH] at hR0 hw0;have hM0:=hM.alloc (.cells (vA 32 fun _=> .int .u8 0) 170);have hG0:=hG.alloc (.cells (vA 32 fun _=> .int .u8 0) 170);have hm0:=hm.alloc (.cells (vA 32 fun _=> .int .u8 0) 170);clear hml hH hM hG hm;go_enter func138,ntmps138;go_upto_region 1 with fail;rw [<-HH.out];refine af (fun W0=>Blk W0 H (vA 32 fun _=> .int .u8 0) 170/\Blk W0 M #[.slice ma mn mc] 22/\Blk W0 G #[.int .u64 (g:Int)] 105/\ah W0 ma m/\Below H w W0) ⟨hR0,hM0,hG0,hm0,hw0⟩ ?_;clear hR0 hM0 hG0 hm0 hw0;rintro w1 ⟨hR,hM,hG,hm,hw⟩;have c0:w1.cell? ⟨M,0,none⟩=some (.slice ma mn mc):=hM.cell rfl;have c1:w1.cell? ⟨G,0,none⟩=some (.int .u64 (g:Int)):=hG.cell rfl;have hlt:=hR.lt;go_wp2_with fail;refine (EH m ma mn mc s g _ hm HL.out hmm oA hg).mono ?_;unfold vp;rintro e w2 ⟨rfl,hb2⟩;have hR2:=hR.old hb2;have hw2:=hw.trans (hb2.mono (Wt hlt));clear hR hM hG hm hw c0 c1 hb2 hlt;go_wp2_with (refine aa rfl 170 fG (.tmp 4) _ (cells:=mcA m (qD (jW s) s.size g)) rfl rfl rfl hR2 (ax _ _) (ax _ _) (du fun _ _=>rfl) ?_);exact cv rfl fG rfl (hR2.setRow _) (ax _ _) rfl ⟨rfl,HH.out▸ag hw2 (Lt _) _⟩
def Jz (m:List UInt8) (g:Nat) (i:Nat):Value:=if i<16 then .int .u8 (B8 (ckB m g i)) else if i<48 then bv (FX m g (i-16)) else .int .u64 (g:Int)
def fI (w:World) (B:Nat) (m:List UInt8) (g:Nat):Prop:=Blk w B (vA 49 (Jz m g)) 174
section
variable {w w':World} {B:Nat} {m:List UInt8} {g:Nat}
theorem fI.old (h:fI w B m g) (hb:Below w.heap.size w w'):fI w' B m g:=Blk.old h hb
theorem fI.keep (h:fI w B m g) {H:Nat} (hB:B<H) (hb:Below H w w'):fI w' B m g:=Blk.below h hb hB
theorem fI.game (h:fI w B m g):w.cell? ⟨B,48,none⟩=some (.int .u64 (g:Int)):=Blk.atV h oA (by simp [Jz])
theorem fI.tag (h:fI w B m g):ah w (some ⟨B,16,none⟩) (tkL m g):=by
 refine aw.mk fun i hi=> ?_;rw [lmA,mR] at hi;rw [Blk.atV h (show 16+i<49 by omega) rfl,Jz,if_neg oA,if_pos oA];simp [tkL]
theorem fI.cipher (h:fI w B m g):∀j (hj:j<(fL 16 (ckB m g)).length),w.cell? ⟨B,0+j,none⟩=some (fL 16 (ckB m g))[j]:=by
 intro j hj;have hj':j<16:=(by simpa [fL] using hj);rw [VS,Blk.atV h (show j<49 by omega) rfl,Jz,if_pos hj'];simp [fL,fv]
end
def Ms (w:World) (g n:Nat) (e:Ending) (w':World):Prop:=e= .returned (.agg (fA 12 (pO g n)))/\Below w.heap.size w w'
theorem Gk:Tryz.prog.arrayLen 175=12:=by kernel_rfl
theorem CL:Tryz.prog.elem 175=5:=by kernel_rfl
theorem LW:Tryz.prog.underlying 175=some (.array (Tryz.prog.arrayLen 175) (Tryz.prog.elem 175)):=by rw [Gk,CL];exact underlying175
theorem Ma (b:Nat) (W:World):(Instr.sliceAt 175 (.pointer (some ⟨b,0,none⟩)) none none none).run prog W= .ok (.slice (some ⟨b,0,none⟩) 12 12) W:=by
 rw [WQ W _ _ LW,CL,et jk,Gk];simp [slicedAt];rfl
theorem AC:(Tryz.prog.info? 175).bind (·.zero)=some (.agg (vA 12 fun _=> .int .u8 0)):=by kernel_rfl
theorem nonA (g n:Nat):(vA 12 fun i=>bv ((uG g n).getD i 0))=fA 12 (pO g n):=by
 unfold vA vL fA fL;congr 1
theorem uF (B:Nat) (m:List UInt8) (g n:Nat) (w:World) (hB:fI w B m g) (hg:g<18446744073709551616) (hn:n<18446744073709551616):
  Calls prog 113 #[.pointer (some ⟨B,0,none⟩),.int .u64 (n:Int)] w (Ms w g n):=by
 obtain ⟨H,hH⟩:=Le w.heap.size;have HH:=Hd hH;have hlt:=hB.lt;rw [<-hH] at hlt;have hR0:=Blk.new w (vA 12 fun _=> .int .u8 0) 175;have hw0:=(AT w.heap.size w).alloc (Lt _) (.cells (vA 12 fun _=> .int .u8 0) 175);rw [<-hH] at hR0 hw0;have hB0:=hB.old ((AT w.heap.size w).alloc (Lt _) (.cells (vA 12 fun _=> .int .u8 0) 175));have hz:=iQ AC;clear hH hB;go_enter func113,ntmps113;go_upto_region 1 with fail;clear hz;rw [<-HH.out];refine af (fun W0=>Blk W0 H (vA 12 fun _=> .int .u8 0) 175/\fI W0 B m g/\Below H w W0) ⟨hR0,hB0,hw0⟩ ?_;clear hR0 hB0 hw0;rintro w1 ⟨hR,hB,hw⟩;have q1:=Ma H;have C0:Hid (∀W,od H w1.drew W->W.cell? ⟨B,48,none⟩=some (.int .u64 (g:Int))):=Hd fun W hW=>(fI.keep (w:=w1.drew) hB hlt hW).game;have hszH:=hR.lt;refine lg H (0::1::2::3::4::7::5::6::8::9::[]) krA krA cdA ?_
 repeat (first|(refine gL (v:= ?_) rfl rfl rfA ?_ ?_;rotate_left;(intro W hW;go_simp);(try with_reducible rfl);simp only [Act.put,sTA,List.set])|(refine mw rfl rfA ?_;simp only [Act.put,sTA,List.set]))
 refine gL (v:= .int .u64 (g:Int)) rfl rfl rfA (fun W hW=>by have:=C0.out W hW;go_simp) ?_;simp only [Act.put,sTA,List.set]
 repeat (first|(refine gL (v:= ?_) rfl rfl rfA ?_ ?_;rotate_left;(intro W hW;go_simp);(try with_reducible rfl);simp only [Act.put,sTA,List.set])|(refine mw rfl rfA ?_;simp only [Act.put,sTA,List.set]))
 refine gW rfl rfl rfA (fun K hK=> ?_);go_wp2_with fail;refine (kH (H+1) 0 g [] none 0 _ hg (Mid.nil' _ _ _) (by exact hszH) oA).mono ?_;rintro e w2 ⟨a2,c2,rfl,hm2,hgr2,hr2⟩;go_wp2_with fail;have hk2:od H w1.drew w2:=(AT H w1.drew).grown hgr2 (Wt hszH) (by simp [bE]);refine hK _ _ hk2 ?_;clear hK K;have hR2:=hR.drew.grown hgr2 (by simp [bE]);have hc8:=hm2.le;have hm4:=hm2.cut 4 oA;have hlen4:(eJ g).length=8:=aL g;refine gL (v:= .slice (kP a2 c2 4) 4 (c2-4)) rfl rfl rfA (fun W hW=>by
  have:=nD (P:=prog) underlying22 jk a2 8 c2 4 oA W;unfold execOp;simp only [Act.eval,Option.map]
  first
   |exact (by simpa using WG (fun r=>r.andThen fun v w=>Result.ok (Next.value v) w) this)
   |(unfold kP;go_simp)) ?_
 simp only [Act.put,sTA,List.set];have hsz2:H+1<=w2.heap.size:=(by have:=hgr2.size;have e:w1.drew.heap.size=w1.heap.size:=rfl;omega);have hl4:((eJ g).map bv).drop 4=((eJ g).drop 4).map bv:=List.map_drop.symm;have hm4':Mid w2 (H+1) 5 (kP a2 c2 4) 4 (c2-4) (((eJ g).drop 4).map bv):=by
  rw [<-hl4];simpa using hm4
 have hrow4:=xM a2 c2 4;have hrr:∀r,bE (kP a2 c2 4) (c2-4)=some r->H+1<=r:=fun r hr=>(hm4'.lt hr).1;clear hm4 hm2 hl4 hlen4;refine gW rfl rfl rfA (fun K hK=> ?_);go_wp2_with fail;refine (kH (H+1) 4 n ((eJ g).drop 4) _ _ _ hn hm4' hsz2 oA).mono ?_;rintro e w3 ⟨a3,c3,rfl,hm3,hgr3,-⟩;go_wp2_with fail;have hk3:od H w2 w3:=(AT H w2).grown hgr3 oA (fun r hr=>by have:=hrr r hr;omega);refine hK _ _ hk3 ?_;clear hK K;have hR3:=hR2.grown hgr3 (fun e=>by have:=hrr H e;omega);have hw3:Below H w w3:=(hw.drew.trans hk2).trans hk3;have hl12:((eJ g).drop 4++eJ n).length=12:=iE g n;have hrd:ah w3 a3 (uG g n):=hm3.read;obtain ⟨r3,o3,rfl,_⟩:=hrd.at (by rw [iE];omega);have hsp:cD (vA 12 fun _=>Value.int .u8 0) 0 ((uG g n).map bv).toArray=vA 12 fun i=>bv ((uG g n).getD i 0):=by
  rw [wy,iE];exact ki _ _ (by rw [ax,ax])
 have HSP:=Hd hsp;clear hm3 hgr3 hm4' hrow4 hrr hk2 hk3 hR2 hgr2 hr2 hsp hl12 hsz2 hR hB;refine gW rfl rfl rfA (fun K hK=> ?_);refine gF _ _ 22 22 rfl underlying22 jk rfl rfl hR3 (cs:=(uG g n).map bv) (by rw [lmA,iE];rfl) (aw.all hrd) (by rw [lmA,iE,ax];omega) (cO _) ?_;rw [HSP.out];refine hK _ _ (ag (AT _ _) (Lt _) _) ?_;clear hK K;refine yr ?_;have hR4:=hR3.setRow (vA 12 fun i=>bv ((uG g n).getD i 0));have hw4:=ag hw3 (Lt H) (vA 12 fun i=>bv ((uG g n).getD i 0));rw [nonA] at hR4 hw4⊢;refine jI (fun W0=>Blk W0 H (fA 12 (pO g n)) 175/\Below H w W0) ⟨hR4,hw4⟩ ?_;clear hR3 hw3 hR4 hw4 hrd HSP hw;rintro w5 ⟨hR,hw⟩;go_wp2_with (first|refine am rfl 175 Ap _ rfl rfl hR (aD _ _) ?_|refine aa rfl 175 Ap (.tmp 4) _ (cells:=fA 12 (pO g n)) rfl rfl rfl hR (aD _ _) (aD _ _) (fj _ _) ?_);exact cv rfl Ap rfl (hR.setRow _) (aD _ _) rfl ⟨rfl,HH.out▸ag hw (Lt _) _⟩
theorem LZ (b o:Nat) (W:World):(Instr.sliceAt 170 (.pointer (some ⟨b,o,none⟩)) none none none).run prog W= .ok (.slice (some ⟨b,o,none⟩) 32 32) W:=by
 rw [WQ W _ _ GF,wR,et jk,Cf];simp [slicedAt];rfl
def Pl (w:World) (m:List UInt8) (g n:Nat) (c:List UInt8) (e:Ending) (w':World):Prop:=e= .returned (.agg (dgA (jH m g n c)))/\Below w.heap.size w w'
theorem yo (B:Nat) (m:List UInt8) (g n:Nat) (ca:Option Addr) (cn cc:Nat) (c:List UInt8) (w:World) (hB:fI w B m g) (hc:ah w ca c) (hcl:c.length=cn) (hcm:cn<=100000) (hg:g<18446744073709551616) (hn:n<18446744073709551616):
  Calls prog 114 #[.pointer (some ⟨B,0,none⟩),.int .u64 (n:Int),.slice ca cn cc] w (Pl w m g n c):=by
 have HC:=Hd hcl;obtain ⟨H,hH⟩:=Le w.heap.size;have HH:=Hd hH;have hlt:=hB.lt;rw [<-hH] at hlt;have hbb:=(AT w.heap.size w).alloc (Lt _) (.cells (vA 32 fun _=> .int .u8 0) 170);have hR0:=Blk.new w (vA 32 fun _=> .int .u8 0) 170;have hB0:=hB.old hbb;have hw0:=hbb;rw [<-hH] at hR0 hw0;have hc0:=Hd hc;clear hcl hH hB hc hbb;go_enter func114,ntmps114;go_upto_region 1 with fail;rw [<-HH.out];refine af (fun W0=>Blk W0 H (vA 32 fun _=> .int .u8 0) 170/\fI W0 B m g/\Below H w W0) ⟨hR0,hB0,hw0⟩ ?_;clear hR0 hB0 hw0;rintro w1 ⟨hR,hB,hw⟩;have q1:=LZ B 16;have C0:Hid (∀W,od H w1.drew W->W.cell? ⟨B,48,none⟩=some (.int .u64 (g:Int))):=Hd fun W hW=>(fI.keep (w:=w1.drew) hB hlt hW).game;have hszH:=hR.lt;refine lg H (0::1::2::3::4::5::6::7::8::10::12::9::11::13::14::15::[]) krA krA cdA ?_
 repeat (first|(refine gL (v:= ?_) rfl rfl rfA ?_ ?_;rotate_left;(intro W hW;go_simp);(try with_reducible rfl);simp only [Act.put,sTA,List.set])|(refine mw rfl rfA ?_;simp only [Act.put,sTA,List.set]))
 refine gL (v:= .int .u64 (g:Int)) rfl rfl rfA (fun W hW=>by have:=C0.out W hW;go_simp) ?_;simp only [Act.put,sTA,List.set]
 repeat (first|(refine gL (v:= ?_) rfl rfl rfA ?_ ?_;rotate_left;(intro W hW;go_simp);(try with_reducible rfl);simp only [Act.put,sTA,List.set])|(refine mw rfl rfA ?_;simp only [Act.put,sTA,List.set]))
 refine gW rfl rfl rfA (fun K hK=> ?_);go_wp2_with fail;refine (kH (H+1) 0 g [] none 0 _ hg (Mid.nil' _ _ _) (by exact hszH) oA).mono ?_;rintro e w2 ⟨a2,c2,rfl,hm2,hgr2,-⟩;go_wp2_with fail;have hk2:od H w1.drew w2:=(AT H w1.drew).grown hgr2 (Wt hszH) (by simp [bE]);refine hK _ _ hk2 ?_;clear hK K;have hR2:=hR.drew.grown hgr2 (by simp [bE]);have hsz2:H+1<=w2.heap.size:=(by have:=hgr2.size;have e:w1.drew.heap.size=w1.heap.size:=rfl;omega);have hrr:∀r,bE a2 c2=some r->H+1<=r:=fun r hr=>(hm2.lt hr).1;clear hgr2;refine gW rfl rfl rfA (fun K hK=> ?_);go_wp2_with fail;refine (kH (H+1) 8 n (eJ g) _ _ _ hn (by simpa using hm2) hsz2 oA).mono ?_;rintro e w3 ⟨a3,c3,rfl,hm3,hgr3,-⟩;go_wp2_with fail;have hk3:od H w2 w3:=(AT H w2).grown hgr3 oA (fun r hr=>by have:=hrr r hr;omega);refine hK _ _ hk3 ?_;clear hK K;have hR3:=hR2.grown hgr3 (fun e=>by have:=hrr H e;omega);have hk13:od H w1.drew w3:=Below.trans hk2 hk3;have hsz3:H+1<=w3.heap.size:=(by have:=hgr3.size;omega);have hrr3:∀r,bE a3 c3=some r->H+1<=r:=fun r hr=>(hm3.lt hr).1;clear hgr3 hrr hm2 hR2 hk2 hk3 hsz2 hR;have hcw3:=hc0.out.below (HH.out▸hw.drew.trans hk13);refine gW rfl rfl rfA (fun K hK=> ?_);refine jy _ _ 22 rfl dK rfl hm3 rfl hcw3 (by rw [lmA,HC.out]) (cO _) mxA oA hsz3 ?_;intro a4 c4 w4 hm4 hgr4 _;have hk4:od H w3 w4:=(AT H w3).grown hgr4 oA (fun r hr=>by have:=hrr3 r hr;omega);refine hK _ _ hk4 ?_;clear hK K;have hR4:=hR3.grown hgr4 (fun e=>by have:=hrr3 H e;omega);have hk14:od H w1.drew w4:=Below.trans hk13 hk4;have hB4:=fI.keep (w:=w1.drew) hB hlt hk14;have hrd:ah w4 a4 (eJ g++eJ n++c):=by
  have:=hm4.read;unfold ah;rw [VG];exact this
 have hlen:(eJ g++eJ n++c).length=8+8+cn:=(by rw [laA,laA,aL,aL,HC.out]);obtain ⟨bb,hbb⟩:=Le (eJ g++eJ n++c);rw [<-hbb] at hlen hrd;have hmk:dgA (jH m g n c)=mcA (tkL m g) bb:=(by rw [hbb];rfl);have HMK:=Hd hmk;have HLN:=Hd hlen;clear hbb hmk hgr4 hrr3 hm3 hm4 hR3 hk13 hk4 hsz3 hcw3 hlen;simp only [Act.put,sTA,List.set];refine gW rfl rfl rfA (fun K hK=> ?_);go_wp2_with fail;refine (IA (tkL m g) bb _ 32 32 _ (8+8+cn) _ _ hB4.tag (mR _ _) oA hrd HLN.out oA).mono ?_;rintro e w5 ⟨rfl,hb5⟩;go_wp2_with fail;have hlt4:=hR4.lt;refine hK _ _ (hb5.mono (Wt hlt4)) ?_;clear hK K;have hR5:=hR4.old hb5;have hw5:Below H w w5:=(hw.drew.trans hk14).trans (hb5.mono (Wt hlt4));clear hR4 hk14 hB4 hrd hb5 hlt4;refine gW rfl rfl rfA (fun K hK=> ?_);refine bf 170 fG (.tmp 6) (.tmp 21) rfl rfl rfl hR5 (ax _ _) (by rw [ax];omega) (du fun _ _=>rfl) ?_;rw [ki _ _ (by rw [ax];exact (ax _ _).symm)];refine hK _ _ (ag (AT _ _) (Lt _) _) ?_;clear hK K;refine yr ?_;have hR6:=hR5.setRow (mcA (tkL m g) bb);have hw6:=ag hw5 (Lt H) (mcA (tkL m g) bb);go_wp2_with fail;exact cv rfl fG rfl hR6 (ax _ _) rfl ⟨by rw [HMK.out],HH.out▸hw6⟩
theorem qh {P:Program} {w:World} {o:Oper} {f:Operand->Value} (t:TypeId) (x y:Operand) (ho:o.op= .build t #[(0,x),(1,y)]) {u v:Value} (hu:f x=u) (hv:f y=v) {cells:Array Value} (h:P.built t [(0,u),(1,v)]=some cells):
  (execOp f o).run P w= .ok (.value (.agg cells)) w:=by
 subst hu hv;unfold execOp;simp only [ho,Wm,run_build w t #[(0,f x),(1,f y)] cells h,WT,Sem.run_pure,List.map_toArray,WY,XF]
theorem Af (c:Nat->BitVec 8) (f:Nat->Value):Tryz.prog.built 172 [(0,.agg (fA 16 c)),(1,.agg (vA 32 f))]=some (vA 48 fun i=>if i<16 then fv (c i) else f (i-16)):=by kernel_rfl
theorem Dd (h:Nat->Value) (g:Int):Tryz.prog.built 174 [(0,.agg (vA 48 h)),(1,.int .u64 g)]=some (vA 49 fun i=>if i<48 then h i else .int .u64 g):=by kernel_rfl
def SnP (w:World) (m:List UInt8) (g:Nat) (e:Ending) (w':World):Prop:=∃B,e= .returned (.pointer (some ⟨B,0,none⟩))/\w.heap.size<=B/\fI w' B m g/\Below w.heap.size w w'
theorem DT (ma:Option Addr) (mn mc:Nat) (m:List UInt8) (g:Nat) (w:World) (hm:ah w ma m) (hml:m.length=mn) (hmm:mn<140737488352000) (hg:g<18446744073709551616):
  Calls prog 110 #[.slice ma mn mc,.int .u64 (g:Int)] w (SnP w m g):=by
 have HL:=Hd hml;obtain ⟨H,hH⟩:=Le w.heap.size;have HH:=Hd hH;have hM0:=(Blk.new w #[.slice ma mn mc] 22).alloc (.cells #[.int .u64 (g:Int)] 105);have hG0:=Blk.new (w.alloc (.cells #[.slice ma mn mc] 22)) #[.int .u64 (g:Int)] 105;have hw0:=((AT w.heap.size w).alloc (Lt _) (.cells #[.slice ma mn mc] 22)).alloc skA (.cells #[.int .u64 (g:Int)] 105);have hm0:=(hm.alloc (.cells #[.slice ma mn mc] 22)).alloc (.cells #[.int .u64 (g:Int)] 105);simp only [Wg] at hG0;rw [<-hH] at hM0 hG0 hw0;have hnk:=fun (s:ByteArray) (W:World) hs hM hG hm=>zH s H (H+1) ma mn mc m g W hs hM hG hm HL.out hmm hg;have HNK:=Hd hnk;clear hml hH hm hnk;go_enter func110,ntmps110;go_upto_region 1 with fail;rw [<-HH.out];refine af (fun W0=>Blk W0 H #[.slice ma mn mc] 22/\Blk W0 (H+1) #[.int .u64 (g:Int)] 105/\ah W0 ma m/\Below H w W0) ⟨hM0,hG0,hm0,hw0⟩ ?_;clear hM0 hG0 hm0 hw0;rintro w1 ⟨hM,hG,hm,hw⟩;have hlt:=hG.lt;go_wp2_with fail;refine (HNK.out (dy jG) _ dcA hM hG hm).mono ?_;unfold vp;rintro e w2 ⟨rfl,hb2⟩;have hM2:=hM.old hb2;have hG2:=hG.old hb2;have hm2:=hm.below hb2;have hw2:=hw.trans (hb2.mono oA);have hs2:=hb2.size;clear hM hG hm hw hb2;obtain ⟨X,hX⟩:=Le (mcA m (qD (jW (dy jG)) (dy jG).size g));have hXs:X.size=32:=(by rw [hX];exact ax _ _);have hX1:X.toList.all (·.oneCell')=true:=(by rw [hX];exact du fun _ _=>rfl);have hXc:∀j (hj:j<(fL 16 (ckB m g)).length),X[j]? =some (fL 16 (ckB m g))[j]:=by
  intro j hj;have hj':j<16:=(by simpa [fL] using hj);rw [hX];have:mcA m (qD (jW (dy jG)) (dy jG).size g)=vA 32 fun i=>bv (Js m g i):=rfl;rw [this,lW _ oA];simp [fL,fv];rfl
 rw [<-hX];clear hX;go_upto_region 3 with (refine aa rfl 170 fG (.tmp 6) _ (cells:=X) rfl rfl rfl (Blk.new _ _ _) hXs rfl hX1 ?_);obtain ⟨C,hC⟩:=Le w2.heap.size;have hC0:=Blk.new w2 (vA 32 fun _=> .int .u8 0) 170;have hbb:=ag ((AT w2.heap.size w2).alloc (Lt _) (.cells (vA 32 fun _=> .int .u8 0) 170)) (VR hC.symm) X;rw [<-hC] at hC0⊢;refine af (fun W0=>Blk W0 H #[.slice ma mn mc] 22/\Blk W0 (H+1) #[.int .u64 (g:Int)] 105/\Blk W0 C X 170/\ah W0 ma m/\Below H w W0) ⟨hM2.old hbb,hG2.old hbb,hC0.setRow _,hm2.below hbb,hw2.trans (hbb.mono oA)⟩ ?_;clear hM2 hG2 hm2 hw2 hs2 hC0 hbb hC hlt;rintro w3 ⟨hM,hG,hC,hm,hw⟩;have hlt:=hG.lt;have ar:∀p c W,(Instr.arrayAt 169 (.slice (some p) 16 c)).run prog W= .ok (.pointer (some p)) W:=fun p c W=>by
  simp [Instr.arrayAt,Vw underlying169]
 have C1:Hid (∀W,Old w3.drew W->W.cell? ⟨H+1,0,none⟩=some (.int .u64 (g:Int))):=Hd fun W hW=>(Blk.old (w:=w3.drew) hG hW).cell rfl;refine aA (0::1::2::3::6::4::5::7::8::9::[]) krA krA cdA ?_
 repeat (first|refine lsA ?_|refine lqA ?_)
 refine cS (v:= .agg (fA 16 (ckB m g))) rfl rfl rfA (fun W hW=>aI 169 dU _ rfl rfl rfl (fun j hj=>by rw [VS,(Blk.old (w:=w3.drew) hC hW).rule];exact hXc j hj) (dd _ _)) ?_;simp only [Act.put,sTA,List.set]
 repeat (first|refine lsA ?_|refine lqA ?_)
 refine cS (v:= .int .u64 (g:Int)) rfl rfl rfA (fun W hW=>by have:=C1.out W hW;go_simp) ?_;simp only [Act.put,sTA,List.set];refine bw rfl rfl rfA (fun K hK=> ?_);go_wp2_with fail;refine (HNK.out (dy Gh) _ dcA hM.drew hG.drew hm.drew).mono ?_;unfold vp;rintro e w4 ⟨rfl,hb4⟩;go_wp2_with fail;refine hK _ _ hb4 ?_;clear hK K;rw [show mcA m (qD (jW (dy Gh)) (dy Gh).size g)=vA 32 fun i=>bv (FX m g i) from rfl];refine cS (v:= .agg (vA 48 fun i=>if i<16 then fv (ckB m g i) else bv (FX m g (i-16)))) rfl rfl rfA (fun W hW=>qh 172 (.tmp 12) (.tmp 14) rfl rfl rfl (Af (ckB m g) (fun i=>bv (FX m g i)))) ?_;simp only [Act.put,sTA,List.set];refine cS (v:= .agg (vA 49 fun i=>if i<48 then (if i<16 then fv (ckB m g i) else bv (FX m g (i-16))) else .int .u64 (g:Int))) rfl rfl rfA (fun W hW=>qh 174 (.tmp 15) (.tmp 16) rfl rfl rfl (Dd (fun i=>if i<16 then fv (ckB m g i) else bv (FX m g (i-16))) (g:Int))) ?_;simp only [Act.put,sTA,List.set];have hbF:(vA 49 fun i=>if i<48 then (if i<16 then fv (ckB m g i) else bv (FX m g (i-16))) else .int .u64 (g:Int))=vA 49 (Jz m g):=by
  refine AL fun i hi=> ?_;unfold Jz;by_cases e1:i<16
  .rw [if_pos oA,if_pos e1,if_pos e1];rfl
  .by_cases e2:i<48
   .rw [if_pos e2,if_neg e1,if_neg e1,if_pos e2]
   .rw [if_neg e2,if_neg e1,if_neg e2]
 rw [hbF];clear hbF;obtain ⟨Z,hZ⟩:=Le (vA 49 (Jz m g));rw [<-hZ];have HZ:=Hd hZ;clear hZ;refine bw rfl rfl rfA (fun K hK=> ?_);go_wp2_with fail;have hb34:Below w3.heap.size w3 w4:=⟨hb4.os,hb4.tape,hb4.output,hb4.size,hb4.block⟩;refine hK _ _ ((AT _ _).alloc (Lt _) _) ?_;clear hK K
 repeat (first|refine lsA ?_|refine lqA ?_)
 refine bO ?_;have hw4:=hw.trans (hb34.mono oA);have hs4:=hb34.size;have hN:=Blk.new w4 Z 174;have hw5:=hw4.alloc (show H<=w4.heap.size by omega) (.cells Z 174);go_wp2_with fail;go_ret;refine ⟨w4.heap.size,rfl,by rw [<-HH.out];omega,?_,HH.out▸hw5⟩;unfold fI;rw [<-HZ.out];exact hN
end
end Go.Proofs.YtioigihakjlopaaGreat

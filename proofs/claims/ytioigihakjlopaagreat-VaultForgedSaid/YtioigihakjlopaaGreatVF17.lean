import Derived.Test.YtioigihakjlopaaGreatVF09
import Derived.Test.YtioigihakjlopaaGreatVF16
namespace Go.Proofs.YtioigihakjlopaaGreat
open Go.Proofs.Tryz
set_option linter.unusedVariables false
set_option linter.unusedSimpArgs false
set_option maxHeartbeats 16000000
set_option maxRecDepth 100000
section
open Go.RowKit
attribute [local go_sem] sr ua tZ CV gJ gX gY iK gh oM xi tx lL pN
structure RkI (w:World) (H:Nat) (h W:Nat->BitVec 32) (wr:World):Prop where
 hst:Blk wr H (vA 8 fun j=>wv (h j)) 267
 kst:Blk wr (H+1) (vA 64 fun j=>wv (kwd j)) 268
 res:Blk wr (H+2) (vA 8 fun _=> .int .u32 0) 267
 words:Blk wr (H+3) (vA 64 fun j=>wv (W j)) 268
 below:Below H w wr
theorem RkI.drew {w:World} {H:Nat} {h W:Nat->BitVec 32} {wr:World} (hI:RkI w H h W wr):RkI w H h W wr.drew:=⟨hI.hst.drew,hI.kst.drew,hI.res.drew,hI.words.drew,hI.below.drew⟩
theorem RkI.word {w:World} {H:Nat} {h W U:Nat->BitVec 32} {wr:World} (hI:RkI w H h W wr) {t:Nat} (ht:t<64) {x:BitVec 32} (hU:∀j,U j=if j=t then x else W j):RkI w H h U (wr.setCell ⟨H+3,t,none⟩ (.int .u32 (U32 x))):=
 ⟨hI.hst.other _ _ (by show H≠H+3;omega),hI.kst.other _ _ (by show H+1≠H+3;omega),hI.res.other _ _ (by show H+2≠H+3;omega),(hI.words.setV ht _).ofV fun j _=>by
  rw [hU];by_cases e:j=t
  .rw [if_pos e,if_pos e];rfl
  .rw [if_neg e,if_neg e],hI.below.setCell (by show H<=H+3;omega) _⟩
def Rk1 (w:World) (H:Nat) (h:Nat->BitVec 32) (m:List UInt8) (f:Nat) (i:Value) (wr:World):Prop:=
 ∃t:Nat,f+t=16/\i= .int .i64 (t:Int)/\RkI w H h (fun j=>if j<t then wd m 0 j else 0#32) wr
def Rk2 (w:World) (H:Nat) (h w0:Nat->BitVec 32) (f:Nat) (i:Value) (wr:World):Prop:=
 ∃t k:Nat,f+t=64/\t=16+k/\i= .int .i64 (t:Int)/\RkI w H h (wx w0 k) wr
def Rk3 (w:World) (H V:Nat) (h u:Nat->BitVec 32) (f:Nat) (i:Value) (wr:World):Prop:=
 ∃t:Nat,f+t=64/\i= .int .i64 (t:Int)/\RkI w H h u wr/\Blk wr V (vA 8 fun j=>wv (vs h u t j)) 267
def Rk4 (w:World) (H V:Nat) (h u:Nat->BitVec 32) (f:Nat) (i:Value) (wr:World):Prop:=
 ∃t:Nat,f+t=8/\i= .int .i64 (t:Int)/\RkI w H (fun j=>if j<t then h j+vs h u 64 j else h j) u wr/\Blk wr V (vA 8 fun j=>wv (vs h u 64 j)) 267
theorem Mb (a b c:BitVec 32):a+b+c=a+c+b:=by rw [BitVec.add_assoc,BitVec.add_comm b,<-BitVec.add_assoc]
theorem zz (h:Nat->BitVec 32) (ba:Option Addr) (cap:Nat) (m:List UInt8) (w:World) (hm:ah w ba m) (hlen:m.length=64):
  Calls prog 201 #[.agg (vA 8 fun j=>wv (h j)),.slice ba 64 cap,.agg (vA 64 fun j=>wv (kwd j))] w fun e w'=>e= .returned (.agg (vA 8 fun j=>wv (cmp h (wd m 0) j)))/\Below w.heap.size w w':=by
 have hz1:=iQ FQ;obtain ⟨b,o,hba,hc⟩:=hm.at oA;subst hba;have HM:=Hd hm;have HL:=Hd hlen;clear hm hc hlen;go_enter func201,ntmps201;go_wp2_with fail;clear hz1;refine af (fun W0=>RkI w w.heap.size h (fun _=>0#32) W0) ⟨(Blk.new3 _ _ _ _ _).alloc _,(Blk.new3' _ _ _ _ _).alloc _,(Blk.new3'' _ _ _ _ _).alloc _,?_,cL⟩ ?_
 .have:=Blk.new (((w.alloc (.cells (vA 8 fun j=>wv (h j)) 267)).alloc (.cells (vA 64 fun j=>wv (kwd j)) 268)).alloc (.cells (vA 8 fun _=> .int .u32 0) 267)) (vA 64 fun _=> .int .u32 0) 268;simp at this;exact this
 rintro w0 hI;obtain ⟨H,hH⟩:=Le w.heap.size;rw [<-hH] at hI⊢;have HH:=Hd hH;clear hH;go_loopg [8] 16 (Rk1 w H h m)
 case atStart=>exact ⟨0,oA,rfl,hI⟩
 case round=>
  clear hI;obtain ⟨t,hf,rfl,hI⟩:=hrel;by_cases ht:t<16
  .have tt:decide ((t:Int)<16)=true:=soA;have HF:=Hd hf;clear hf;obtain ⟨p,hp⟩:=Le (4*t);obtain ⟨p1,hp1⟩:=Le (p+1);obtain ⟨p2,hp2⟩:=Le (p+2);obtain ⟨p3,hp3⟩:=Le (p+3);have e0:IntKind.i64.wrap (4*(t:Int))=(p:Int):=(by rw [VD _ oA];omega);have e1:IntKind.i64.wrap ((p:Int)+1)=(p1:Int):=(by rw [VD _ oA];omega);have e2:IntKind.i64.wrap ((p:Int)+2)=(p2:Int):=(by rw [VD _ oA];omega);have e3:IntKind.i64.wrap ((p:Int)+3)=(p3:Int):=(by rw [VD _ oA];omega);have i0:(p:Int)<64:=oA;have i1:(p1:Int)<64:=oA;have i2:(p2:Int)<64:=oA;have i3:(p3:Int)<64:=oA;have hmr:ah wr (some ⟨b,o,none⟩) m:=HM.out.below (by rw [<-HH.out];exact hI.below);have hml:=HL.out;have hcell:∀j,(hj:j<m.length)->∀W,Old wr.drew W->W.cell? ⟨b,o+j,none⟩=some (.int .u8 (U8 m[j])):=fun j hj W hW=>by
    obtain ⟨b',o',e,hc⟩:=(hmr.drew.below hW).at oA;obtain ⟨rfl,rfl⟩:b=b'/\o=o':=(by simpa using e);exact hc j hj
   have C0:=hcell p oA;have C1:=hcell p1 oA;have C2:=hcell p2 oA;have C3:=hcell p3 oA;have htI:(t:Int)<64:=oA;have hwp:mN m (4*t) 4=(m[p].toBitVec.setWidth 32)<<<24|||(m[p1].toBitVec.setWidth 32)<<<16|||(m[p2].toBitVec.setWidth 32)<<<8|||m[p3].toBitVec.setWidth 32:=by
    subst hp3 hp2 hp1;rw [<-hp];exact yQ m p oA
   obtain ⟨y0,hy0⟩:=Le (m[p]);obtain ⟨y1,hy1⟩:=Le (m[p1]);obtain ⟨y2,hy2⟩:=Le (m[p2]);obtain ⟨y3,hy3⟩:=Le (m[p3]);rw [<-hy0] at C0 hwp;rw [<-hy1] at C1 hwp;rw [<-hy2] at C2 hwp;rw [<-hy3] at C3 hwp;have HW:=Hd hwp;clear hy0 hy1 hy2 hy3 hwp hcell hmr hml hp3 hp2 hp1 hp;go_wp2_with fail;refine aj true Old Old.refl Old.trans (.step 0 (.step 1 (.step 2 (.step 3 (.step 4 (.step 5 (.step 6 (.step 7 (.step 8 (.step 9 (.step 10 (.step 11 (.step 12 (.step 13 (.step 14 (.step 15 (.step 16 (.step 17 (.step 18 (.step 19 (.step 20 (.step 21 (.step 22 (.step 23 (.step 24 (.step 25 (.step 26 (.step 27 (.step 28 (.step 29 (.step 30 (.step 31 (.step 32 (.step 33 (.step 34 (.step 35 .done)))))))))))))))))))))))))))))))))))) krA krA cdA ?_
   repeat (first|refine tsA ?_|refine tqA ?_)
   have hd:=hI.drew;have f3:=hd.words.free;have c3:=hd.words.atV (show t<64 by omega) rfl;refine az rfl rfl rfA (fun K hK=> ?_);go_wp2_with fail;refine ap ?_;clear f3 c3;go_wp2_with fail;go_roundg (gk-1)
   case rel=>
    have hf:=HF.out;refine ⟨t+1,oA,gnA,hd.word oA fun j=> ?_⟩;by_cases e:j=t
    .subst e;rw [if_pos rfl,if_pos oA,wd,VS,HW.out]
    .rw [if_neg e];by_cases e2:j<t
     .rw [if_pos e2,if_pos oA]
     .rw [if_neg e2,if_neg oA]
   case measure=>have hf:=HF.out;omega
  .obtain rfl:t=16:=oA;have tt:decide (((16:Nat):Int)<16)=false:=skA;clear hf;obtain ⟨w00,hw00⟩:∃u:Nat->BitVec 32,u=fun j=>if j<16 then wd m 0 j else 0#32:=⟨_,rfl⟩;rw [<-hw00] at hI;go_wp2_with fail;go_loopg [9,10,11,12,13] 48 (fun f i _ _ _ _ wr=>Rk2 w H h w00 f i wr)
   case atStart=>exact ⟨16,0,oA,oA,rfl,hI⟩
   case round=>
    clear hI;obtain ⟨t,k,hf,hk,rfl,hI⟩:=hrel;by_cases ht:t<64
    .have tt:decide ((t:Int)<64)=true:=soA;have HF:=Hd hf;clear hf;obtain ⟨k1,hk1⟩:=Le (k+1);obtain ⟨k9,hk9⟩:=Le (k+9);obtain ⟨k14,hk14⟩:=Le (k+14);have e1:IntKind.i64.wrap ((t:Int)-15)=(k1:Int):=(by rw [VD _ oA];omega);have e2:IntKind.i64.wrap ((t:Int)-2)=(k14:Int):=(by rw [VD _ oA];omega);have e3:IntKind.i64.wrap ((t:Int)-16)=(k:Int):=(by rw [VD _ oA];omega);have e4:IntKind.i64.wrap ((t:Int)-7)=(k9:Int):=(by rw [VD _ oA];omega);have i1:(k1:Int)<64:=oA;have i2:(k14:Int)<64:=oA;have i3:(k:Int)<64:=oA;have i4:(k9:Int)<64:=oA;have i5:(t:Int)<64:=oA;obtain ⟨u,hu⟩:=Le (wx w00 k);rw [<-hu] at hI;have c1:wr.cell? ⟨H+3,k1,none⟩=some (.int .u32 (U32 (u k1))):=hI.words.atV oA rfl;have c2:wr.cell? ⟨H+3,k14,none⟩=some (.int .u32 (U32 (u k14))):=hI.words.atV oA rfl;have D3:∀W,Old wr.drew W->W.cell? ⟨H+3,k,none⟩=some (.int .u32 (U32 (u k))):=fun W h=>(hI.words.drew.old h).atV oA rfl;have D4:∀W,Old wr.drew W->W.cell? ⟨H+3,k9,none⟩=some (.int .u32 (U32 (u k9))):=fun W h=>(hI.words.drew.old h).atV oA rfl;have HU:=Hd hu;have HK:=Hd hk;have HK1:=Hd hk1;have HK9:=Hd hk9;have HK14:=Hd hk14;have f1:(t:Int)-15=(k1:Int):=oA;have f2:(t:Int)-2=(k14:Int):=oA;clear hu hk hk1 hk9 hk14;go_wp2_with fail;clear c1 c2;refine (fF (u k1) 7 7 rfl dcA _).mono ?_;rintro e w' ⟨rfl,rfl⟩;go_wp2_with fail;refine (fF (u k1) 18 18 rfl dcA _).mono ?_;rintro e w' ⟨rfl,rfl⟩;go_wp2_with fail;refine (fF (u k14) 17 17 rfl dcA _).mono ?_;rintro e w' ⟨rfl,rfl⟩;go_wp2_with fail;refine (fF (u k14) 19 19 rfl dcA _).mono ?_;rintro e w' ⟨rfl,rfl⟩;go_wp2_with fail;clear f1 f2;refine aj true Old Old.refl Old.trans (.step 0 (.step 1 (.step 2 (.step 3 (.step 4 (.step 5 (.step 6 (.step 7 (.step 8 (.step 9 (.step 10 (.step 11 (.step 12 (.step 13 (.step 14 (.step 15 .done)))))))))))))))) krA krA cdA ?_
     repeat (first|refine tsA ?_|refine tqA ?_)
     have hd:=hI.drew;have f3:=hd.words.free;have c3:=hd.words.atV (show t<64 by omega) rfl;refine az rfl rfl rfA (fun K hK=> ?_);go_wp2_with fail;refine ap ?_;clear f3 c3;go_wp2_with fail;go_roundg (gk-1)
     case rel=>
      have hf:=HF.out;have hk:=HK.out;refine ⟨t+1,k+1,oA,oA,gnA,hd.word oA fun j=> ?_⟩;simp only [wx];rw [<-HU.out,<-hk,show t-16=k by omega,show t-7=k9 by have:=HK9.out;omega,show t-15=k1 by have:=HK1.out;omega,show t-2=k14 by have:=HK14.out;omega];by_cases e:j=t
      .rw [if_pos e,if_pos e,Mb (u k)];rfl
      .rw [if_neg e,if_neg e]
     case measure=>have hf:=HF.out;omega
    .obtain rfl:t=64:=oA;have tt:decide (((64:Nat):Int)<64)=false:=skA;obtain rfl:k=48:=oA;clear hf hk;obtain ⟨u,hu⟩:=Le (wx w00 48);rw [<-hu] at hI;have HU:=Hd hu;have HW:=Hd hw00;clear hu hw00;have hS:=hI.hst;go_upto_region 15 with (first|refine am rfl 267 xh _ rfl rfl hS (ax _ _) ?_|refine aa rfl 267 xh (.tmp 14) _ (cells:=vA 8 fun j=>wv (h j)) rfl rfl rfl (Blk.new _ _ _) (ax _ _) rfl (du fun _ _=>rfl) ?_);obtain ⟨V,hV⟩:=Le wr.heap.size;have hHV:H+3<V:=(by have:=hI.words.lt;omega);have hV0:=Blk.new wr (vA 8 fun _=> .int .u32 0) 267;rw [<-hV] at hV0⊢;refine af (fun W0=>RkI w H h u W0/\Blk W0 V (vA 8 fun j=>wv (h j)) 267) ⟨⟨(hI.hst.alloc _).setRow_other _ _ oA,(hI.kst.alloc _).setRow_other _ _ oA,(hI.res.alloc _).setRow_other _ _ oA,(hI.words.alloc _).setRow_other _ _ oA,ag (hI.below.alloc oA _) oA _⟩,hV0.setRow _⟩ ?_;clear hI hS hV hV0;rintro w5 ⟨hI,hV⟩;go_wp2_with fail;go_loopg [15,16,17,18,19] 64 (fun f i _ _ _ _ wr=>Rk3 w H V h u f i wr)
     case atStart=>exact ⟨0,oA,rfl,hI,hV⟩
     case round=>
      clear hI hV;obtain ⟨t,hf,rfl,hI,hV⟩:=hrel;by_cases ht:t<64
      .have tt:decide ((t:Int)<64)=true:=soA;have htI:(t:Int)<64:=oA;have HF:=Hd hf;clear hf;obtain ⟨v,hv⟩:=Le (vs h u t);rw [<-hv] at hV;have HV:=Hd hv;clear hv;have d0:wr.cell? ⟨V,0,none⟩=some (.int .u32 (U32 (v 0))):=hV.atV oA rfl;have d4:wr.cell? ⟨V,4,none⟩=some (.int .u32 (U32 (v 4))):=hV.atV oA rfl;go_upto_region 20 with fail;clear d0 d4;have C5:∀W,Old wr.drew W->W.cell? ⟨V,5,none⟩=some (.int .u32 (U32 (v 5))):=fun W h=>(hV.drew.old h).atV oA rfl;have C6:∀W,Old wr.drew W->W.cell? ⟨V,6,none⟩=some (.int .u32 (U32 (v 6))):=fun W h=>(hV.drew.old h).atV oA rfl;have C7:∀W,Old wr.drew W->W.cell? ⟨V,7,none⟩=some (.int .u32 (U32 (v 7))):=fun W h=>(hV.drew.old h).atV oA rfl;have CK:∀W,Old wr.drew W->W.cell? ⟨H+1,t,none⟩=some (.int .u32 (U32 (kwd t))):=fun W h=>(hI.kst.drew.old h).atV ht rfl;have CW:∀W,Old wr.drew W->W.cell? ⟨H+3,t,none⟩=some (.int .u32 (U32 (u t))):=fun W h=>(hI.words.drew.old h).atV ht rfl;have D1:∀W,Old wr.drew.drew W->W.cell? ⟨V,1,none⟩=some (.int .u32 (U32 (v 1))):=fun W h=>(hV.drew.drew.old h).atV oA rfl;have D2:∀W,Old wr.drew.drew W->W.cell? ⟨V,2,none⟩=some (.int .u32 (U32 (v 2))):=fun W h=>(hV.drew.drew.old h).atV oA rfl;refine aA (0::1::2::4::7::11::12::13::14::15::16::17::18::19::20::22::23::24::26::27::28::3::5::6::8::9::10::21::25::29::30::[]) krA krA cdA ?_
       repeat (first|refine lsA ?_|refine lqA ?_)
       refine bw rfl rfl rfA (fun K hK=> ?_);go_wp2_with fail;refine (fF (v 4) 6 6 rfl dcA _).mono ?_;rintro e w' ⟨rfl,rfl⟩;go_wp2_with fail;refine hK _ _ (Old.refl _) ?_;clear hK K
       repeat (first|refine lsA ?_|refine lqA ?_)
       refine bw rfl rfl rfA (fun K hK=> ?_);go_wp2_with fail;refine (fF (v 4) 11 11 rfl dcA _).mono ?_;rintro e w' ⟨rfl,rfl⟩;go_wp2_with fail;refine hK _ _ (Old.refl _) ?_;clear hK K
       repeat (first|refine lsA ?_|refine lqA ?_)
       refine bw rfl rfl rfA (fun K hK=> ?_);go_wp2_with fail;refine (fF (v 4) 25 25 rfl dcA _).mono ?_;rintro e w' ⟨rfl,rfl⟩;go_wp2_with fail;refine hK _ _ (Old.refl _) ?_;clear hK K
       repeat (first|refine lsA ?_|refine lqA ?_)
       refine bO ?_;clear C5 C6 C7 CK CW;go_wp2_with fail;refine aA (0::2::5::8::9::10::11::12::13::14::15::16::17::18::19::20::21::22::1::3::4::6::7::23::24::[]) krA krA cdA ?_
       repeat (first|refine lsA ?_|refine lqA ?_)
       refine bw rfl rfl rfA (fun K hK=> ?_);go_wp2_with fail;refine (fF (v 0) 2 2 rfl dcA _).mono ?_;rintro e w' ⟨rfl,rfl⟩;go_wp2_with fail;refine hK _ _ (Old.refl _) ?_;clear hK K
       repeat (first|refine lsA ?_|refine lqA ?_)
       refine bw rfl rfl rfA (fun K hK=> ?_);go_wp2_with fail;refine (fF (v 0) 13 13 rfl dcA _).mono ?_;rintro e w' ⟨rfl,rfl⟩;go_wp2_with fail;refine hK _ _ (Old.refl _) ?_;clear hK K
       repeat (first|refine lsA ?_|refine lqA ?_)
       refine bw rfl rfl rfA (fun K hK=> ?_);go_wp2_with fail;refine (fF (v 0) 22 22 rfl dcA _).mono ?_;rintro e w' ⟨rfl,rfl⟩;go_wp2_with fail;refine hK _ _ (Old.refl _) ?_;clear hK K
       repeat (first|refine lsA ?_|refine lqA ?_)
       refine bO ?_;clear D1 D2;have hI:=hI.drew.drew;have hV:=hV.drew.drew;have g0:wr.drew.drew.cell? ⟨V,0,none⟩=some (.int .u32 (U32 (v 0))):=hV.atV oA rfl;have g1:wr.drew.drew.cell? ⟨V,1,none⟩=some (.int .u32 (U32 (v 1))):=hV.atV oA rfl;have g2:wr.drew.drew.cell? ⟨V,2,none⟩=some (.int .u32 (U32 (v 2))):=hV.atV oA rfl;have g3:wr.drew.drew.cell? ⟨V,3,none⟩=some (.int .u32 (U32 (v 3))):=hV.atV oA rfl;have g4:wr.drew.drew.cell? ⟨V,4,none⟩=some (.int .u32 (U32 (v 4))):=hV.atV oA rfl;have g5:wr.drew.drew.cell? ⟨V,5,none⟩=some (.int .u32 (U32 (v 5))):=hV.atV oA rfl;have g6:wr.drew.drew.cell? ⟨V,6,none⟩=some (.int .u32 (U32 (v 6))):=hV.atV oA rfl;go_wp2_with (refine aa rfl 267 xh (.tmp 14) _ (cells:=vA 8 fun j=>wv (rd v (kwd t) (u t) j)) rfl rfl rfl hV (ax _ _) (ax _ _) (du fun _ _=>rfl) ?_);clear g0 g1 g2 g3 g4 g5 g6;go_wp2_with fail;go_roundg (gk-1)
       case rel=>
        have hf:=HF.out;refine ⟨t+1,oA,gnA,⟨hI.hst.setRow_other _ _ oA,hI.kst.setRow_other _ _ oA,hI.res.setRow_other _ _ oA,hI.words.setRow_other _ _ oA,ag hI.below oA _⟩,?_⟩;rw [vs,<-HV.out];exact hV.setRow _
       case measure=>have hf:=HF.out;omega
      .obtain rfl:t=64:=oA;have tt:decide (((64:Nat):Int)<64)=false:=skA;clear hf;go_wp2_with fail;go_loopg [20] 8 (Rk4 w H V h u)
       case atStart=>exact ⟨0,oA,rfl,hI,hV⟩
       case round=>
        clear hI hV;obtain ⟨t,hf,rfl,hI,hV⟩:=hrel;by_cases ht:t<8
        .have tt:decide ((t:Int)<8)=true:=soA;have htI:(t:Int)<8:=oA;have HF:=Hd hf;clear hf;have C1:∀W,Old wr.drew W->W.cell? ⟨H,t,none⟩=some (.int .u32 (U32 (h t))):=fun W hW=>(hI.hst.drew.old hW).atV oA (by rw [if_neg oA];rfl);have C2:∀W,Old wr.drew W->W.cell? ⟨V,t,none⟩=some (.int .u32 (U32 (vs h u 64 t))):=fun W hW=>(hV.drew.old hW).atV oA rfl;go_wp2_with fail;refine aj true Old Old.refl Old.trans (.step 0 (.step 1 (.step 2 (.step 3 (.step 4 (.step 5 (.step 6 (.step 7 (.step 8 (.step 9 .done)))))))))) krA krA cdA ?_
         repeat (first|refine tsA ?_|refine tqA ?_)
         have hd:=hI.drew;have f3:=hd.hst.free;have c3:=hd.hst.atV (show t<8 by omega) rfl;refine az rfl rfl rfA (fun K hK=> ?_);go_wp2_with fail;refine ap ?_;clear f3 c3;go_wp2_with fail;go_roundg (gk-1)
         case rel=>
          have hf:=HF.out;refine ⟨t+1,oA,gnA,⟨?_,hd.kst.other _ _ (by show H+1≠H;omega),hd.res.other _ _ (by show H+2≠H;omega),hd.words.other _ _ (by show H+3≠H;omega),hd.below.setCell (by show H<=H;omega) _⟩,hV.drew.other _ _ (by show V≠H;omega)⟩;refine (hd.hst.setV oA _).ofV fun j _=> ?_;by_cases e:j=t
          .subst e;rw [if_pos rfl,if_pos oA];rfl
          .rw [if_neg e];by_cases e3:j<t
           .rw [if_pos e3,if_pos oA]
           .rw [if_neg e3,if_neg oA]
         case measure=>have hf:=HF.out;omega
        .obtain rfl:t=8:=oA;have tt:decide (((8:Nat):Int)<8)=false:=skA;clear hf;have hS:Blk wr H (vA 8 fun j=>wv (cmp h (wd m 0) j)) 267:=hI.hst.ofV fun j hj=>by
          rw [if_pos hj,GA (w':=wd m 0) HU.out (fun t ht=>(Wn HW.out t).trans (if_pos ht)) j hj]
         have hR:=hI.res;go_wp2_with (first|refine am rfl 267 xh _ rfl rfl hS (ax _ _) ?_|refine aa rfl 267 xh (.tmp 6) _ (cells:=vA 8 fun j=>wv (cmp h (wd m 0) j)) rfl rfl rfl hR (ax _ _) (ax _ _) (du fun _ _=>rfl) ?_);refine cv rfl xh rfl (hR.setRow _) (ax _ _) rfl ⟨rfl,?_⟩;rw [<-HH.out];exact ag hI.below oA _
end
section
open Go.RowKit
theorem vQ {t e:TypeId} {P:Program} (ht:P.underlying t=some (.slice e)) (hsz:(P.info? e).map (·.size)=some 1) (g n c k h:Nat) (hk:k<h) (hh:h<=c) (W:World):
  (Instr.sliceAt t (.slice (some ⟨g,0,none⟩) n c) (some (.int .i64 (k:Int))) (some (.int .i64 (h:Int))) none).run P W= .ok (.slice (some ⟨g,k,none⟩) (h-k) (c-k)) W:=by
 have he:P.elem t=e:=(by simp [Program.elem,ht]);rw [run_sliceAt_slice W t _ _ _ _ (by rw [he];exact ht)];rw [run_slice_lh W t _ n c (by rw [he];exact ht) .i64 .i64 (k:Int) (h:Int) oA oA oA,he,et hsz];have:¬c=k:=oA;simp [sliced,Vs,this]
structure SrI (w1:World) (B n:Nat) (S:List UInt8) (a:Option Addr) (c:Nat) (wr:World):Prop where
 own:Own wr B 5 1 a n c (S.map bv)
 below:Below B w1 wr
def Sr1 (w1:World) (B L:Nat) (l:List UInt8) (f:Nat) (v:Value) (wr:World):Prop:=
 ∃(z n:Nat) (a:Option Addr) (c:Nat),f+z=zN L/\n=L+1+z/\v= .slice a n c/\SrI w1 B n (pdl l z) a c wr
def Sr2 (w1:World) (B L:Nat) (S:List UInt8) (f:Nat) (v i:Value) (wr:World):Prop:=
 ∃(k n:Nat) (a:Option Addr) (c:Nat),f+k=8/\n=S.length+k/\i= .int .i64 (7-(k:Int))/\v= .slice a n c/\SrI w1 B n (S++(eJ (L*8)).take k) a c wr
structure SrJ (w1:World) (B V K:Nat) (h:Nat->BitVec 32) (S:List UInt8) (g:Nat) (wr:World):Prop where
 row:ah wr (some ⟨g,0,none⟩) S
 hst:Blk wr V (vA 8 fun j=>wv (h j)) 267
 kst:Blk wr K (vA 64 fun j=>wv (kwd j)) 268
 below:Below B w1 wr
def Sr3 (w1:World) (B V K N:Nat) (S:List UInt8) (g:Nat) (f:Nat) (at_:Value) (wr:World):Prop:=
 ∃i:Nat,f+i=N/\at_= .int .i64 (64*(i:Int))/\SrJ w1 B V K (stt S i) S g wr
def Sr4 (w1:World) (B V O:Nat) (l:List UInt8) (f:Nat) (i:Value) (wr:World):Prop:=
 ∃k:Nat,f+k=32/\i= .int .i64 (k:Int)/\Blk wr V (vA 8 fun j=>wv (CI l j)) 267/\Blk wr O (vA 32 fun j=>if j<k then bv (dgb l j) else .int .u8 0) 170/\Below B w1 wr
theorem Fd (l:List UInt8):(mL l).length=64*((mL l).length/64):=by
 rw [mL,laA,aL,jp];unfold zN;omega
theorem Dj (n k:Nat) (hk:k<8):(eJ n).take (k+1)=(eJ n).take k++ [iL n k]:=by
 rw [VW (by rw [aL];exact hk)];simp [eJ]
theorem sy (l:List UInt8) (la:Option Addr) (cap L:Nat) (w:World) (hm:ah w la l) (hlen:l.length=L) (hl:L<140737488353000):
  Calls prog 190 #[.slice la L cap] w fun e w'=>e= .returned (.agg (dgA l))/\Below w.heap.size w w':=by
 have HL:=Hd hlen;clear hlen;obtain ⟨H,hH⟩:=Le w.heap.size;obtain ⟨B,hB⟩:=Le (H+1);rw [<-hH];go_enter func190,ntmps190;go_upto_region 1 with fail;rw [<-hH];refine af (fun W0=>Blk W0 H (vA 32 fun _=> .int .u8 0) 170/\ah W0 la l/\Below H w W0/\W0.heap.size=B) ⟨by rw [hH];exact Blk.new _ _ _,hm.alloc _,by rw [hH];exact cL,by simp [hB,hH]⟩ ?_;clear hm;rintro w1 ⟨hR,hm,hb0,hz1⟩;have HH:=Hd hH;have HB:=Hd hB;clear hH hB;go_wp2_with (at_builtin;refine al rfl (.tmp 11) (.tmp 12) 22 rfl dK rfl (Own.nil _ B _ _) rfl hm (by rw [lmA,HL.out,Vk]) (cO _) mxA oA oA ?_);intro a2 c2 w2 own2 hg2;have hb2:Below B w1 w2:=(Own.nil w1 B 5 1).grown (AT _ _) (Lt _) hg2 oA;have hs2:=hb2.size;clear hg2 hm;go_wp2_with (at_builtin;refine al rfl (.tmp 14) (.tmp 15) 22 rfl dK rfl (own2.alloc _) rfl (aw.new' _ _ _ _ skA) rfA (by exact dg _ rfl) mxA oA soA ?_);intro a3 c3 w3 own3 hg3;have hb3:=(own2.alloc (.cells #[Value.int .u8 128] 5)).grown (hb2.alloc oA _) (Lt _) hg3 soA;have hI0:SrI w1 B (L+1) (pdl l 0) a3 c3 w3:=⟨by
  have e:(pdl l 0).map bv=l.map bv++ [Value.int .u8 128]:=(by simp [pdl,bv,U8]);rw [e];exact own3,hb3⟩
 clear own2 own3 hg3 hb2 hb3 hs2;go_wp2_with fail;go_loopg [3] (zN L) (Sr1 w1 B L l)
 case atStart=>exact ⟨0,L+1,a3,c3,oA,oA,rfl,hI0⟩
 case round=>
  clear hI0;obtain ⟨z,n,a,c,hf,hn,rfl,hI⟩:=hrel;obtain ⟨q,hq⟩:=Le (n%64);have hqI:(n:Int)%64=(q:Int):=oA;have hz:z<=zN L:=oA;have hzn:(q=56↔z=zN L):=(by unfold zN at hz⊢;omega);have hsz:=hI.below.size;have hZ:zN L<64:=(by unfold zN;omega);have HF:=Hd hf;have HN:=Hd hn;clear hf;by_cases h56:q=56
  .have HZ:=Hd (hzn.1 h56);subst h56;obtain ⟨S,hS⟩:=Le (pdl l (zN L));have hIz:SrI w1 B n S a c wr:=(by rw [hS,<-HZ.out];exact hI);have hnS:n=S.length:=(by rw [hS,jp,<-HZ.out,HL.out];exact hn);have hS0:S.length<140737488354000:=oA;have HS:=Hd hS;have HNS:=Hd hnS;have hq56:(n:Int)%64=56:=(by simpa using hqI);clear hn hq hqI hz hzn hZ hI hS hnS;go_wp2_with fail;go_loopg [3,5] 8 (Sr2 w1 B L S)
   case atStart=>exact ⟨0,n,a,c,oA,by have:=HNS.out;omega,rfl,rfl,by simpa using hIz⟩
   case round=>
    clear hIz hq56;obtain ⟨k,n,a,c,hf,hn,rfl,rfl,hI⟩:=hrel;by_cases hk:k<8
    .obtain ⟨j,hj⟩:=Le (7-k);have hjI:7-(k:Int)=(j:Int):=oA;rw [hjI];obtain ⟨s,hs⟩:=Le (8*j);have hsI:8*(j:Int)=(s:Int):=oA;have hs1:s=56-8*k:=oA;have hj8:(j:Int)<8:=oA;have hs8:(s:Int)<64:=oA;have tt:decide ((0:Int)<=(j:Int))=true:=skA;have HF2:=Hd hf;have HJ:=Hd hj;have HS1:=Hd hs1;have hsz2:=hI.below.size;have hn1:n<140737488354100:=oA;have HN2:=Hd hn;clear hf hj hs hs1 hjI hn;go_wp2_with (at_builtin;refine al rfl (.tmp 32) (.tmp 39) 22 rfl dK rfl (hI.own.alloc _) rfl (aw.new' _ _ _ _ skA) rfA (by exact dg _ rfl) mxA oA soA ?_);intro a4 c4 w4 own4 hg4;have hb4:=(hI.own.alloc (.cells #[Value.int .u8 ((L:Int)*8/2^s%256)] 5)).grown (hI.below.alloc oA _) (Lt _) hg4 soA;clear hg4;go_wp2_with fail;go_roundg (gk-1)
     case rel=>
      have hf:=HF2.out;have hn:=HN2.out;have hj:=HJ.out;refine ⟨k+1,n+1,a4,c4,oA,oA,?_,rfl,⟨?_,hb4⟩⟩
      .go_num
      .rw [jJ (L*8) L k _ rfl (by rw [<-HS1.out];norm_cast)] at own4;rw [Dj _ _ hk];simp only [VG,WE,WY,XF];exact own4
     case measure=>have hf:=HF2.out;omega
    .obtain rfl:k=8:=oA;rw [show 7-((8:Nat):Int)= -1 from rfl];have hF:mL l=S++eJ (L*8):=(by rw [mL,HL.out,HS.out]);have hIf:SrI w1 B n (mL l) a c wr:=by
      have e:(eJ (L*8)).take 8=eJ (L*8):=Vj (by rw [aL];exact Lt _);rw [hF];rw [e] at hI;exact hI
     have hfl:n=(mL l).length:=(by rw [hF,laA,aL];exact hn);have hnl:n<140737488354100:=oA;have HFL:=Hd hfl;clear hI hF hn hf hfl;go_wp2_with fail;refine (zq _).mono ?_;rintro e w5 ⟨rfl,hb5⟩;go_upto_region 12 with (refine aa rfl 267 xh (.tmp 6) _ (cells:=vA 8 fun j=>wv (hwd j)) rfl rfl rfl (Blk.new _ _ _) (ax _ _) rfl (du fun _ _=>rfl) ?_);obtain ⟨V,hV⟩:=Le w5.heap.size;have hz5:=hIf.below.size;have hz5b:=hb5.size;have hBV:B<=V:=oA;have hIf5:SrI w1 B n (mL l) a c w5:=⟨hIf.own.old hb5,hIf.below.trans (hb5.mono oA)⟩;have hV0:=Blk.new w5 (vA 8 fun _=> .int .u32 0) 267;rw [<-hV] at hV0⊢;refine af (fun W0=>SrI w1 B n (mL l) a c W0/\Blk W0 V (vA 8 fun j=>wv (hwd j)) 267) ⟨⟨(hIf5.own.alloc _).setRow_apart hV0 dcA _,ag (hIf5.below.alloc oA _) hBV _⟩,hV0.setRow _⟩ ?_;clear hIf hIf5 hb5 hV hV0 hz5 hz5b;rintro w6 ⟨hI,hS⟩;go_wp2_with fail;refine (vT _).mono ?_;rintro e w5 ⟨rfl,hb5⟩;go_upto_region 13 with (refine aa rfl 268 Ao (.tmp 7) _ (cells:=vA 64 fun j=>wv (kwd j)) rfl rfl rfl (Blk.new _ _ _) (ax _ _) rfl (du fun _ _=>rfl) ?_);obtain ⟨Kb,hKb⟩:=Le w5.heap.size;have hz5:=hI.below.size;have hz5b:=hb5.size;have hVK:V<Kb:=(by have:=hS.lt;omega);have hI5:SrI w1 B n (mL l) a c w5:=⟨hI.own.old hb5,hI.below.trans (hb5.mono oA)⟩;have hS5:=hS.old hb5;have hV0:=Blk.new w5 (vA 64 fun _=> .int .u32 0) 268;rw [<-hKb] at hV0⊢;obtain ⟨g,cur,rfl,hBg,hcur,-,-⟩:=hI.own.blk (by rw [HFL.out,mL,laA,aL];omega);refine af (fun W0=>SrI w1 B n (mL l) (some ⟨g,0,none⟩) c W0/\Blk W0 V (vA 8 fun j=>wv (hwd j)) 267/\Blk W0 Kb (vA 64 fun j=>wv (kwd j)) 268) ⟨⟨(hI5.own.alloc _).setRow_apart hV0 dcA _,ag (hI5.below.alloc oA _) oA _⟩,(hS5.alloc _).setRow_other _ _ oA,hV0.setRow _⟩ ?_;have hgV:g≠V:=Blk.ne hcur hS dcA;clear hI hI5 hb5 hKb hV0 hz5 hz5b hS hS5 hcur;rintro w7 ⟨hI,hS,hKs⟩;have hcn:=hI.own.le;have hcm:=hI.own.cap_le;unfold maxLen at hcm;have hJ:SrJ w1 B V Kb (stt (mL l) 0) (mL l) g w7:=⟨hI.own.row,hS,hKs,hI.below⟩;have hfm:n=64*(n/64):=(by rw [HFL.out];exact Fd l);obtain ⟨N,hN⟩:=Le (n/64);rw [<-hN] at hfm;have HN:=Hd hN;have HFM:=Hd hfm;clear hN hI hS hKs hfm;go_wp2_with fail;go_loopg [8] N (Sr3 w1 B V Kb N (mL l) g)
     case atStart=>exact ⟨0,oA,rfl,hJ⟩
     case round=>
      clear hJ;obtain ⟨i,hf,rfl,hJ⟩:=hrel;by_cases hi:i<N
      .have hfm:=HFM.out;obtain ⟨p,hp⟩:=Le (64*i);obtain ⟨p2,hp2⟩:=Le (p+64);have hpI:64*(i:Int)=(p:Int):=oA;rw [hpI];have hpn:p2<=n:=oA;have tt:decide (p<n)=true:=soA;have e2:IntKind.i64.wrap ((p:Int)+64)=(p2:Int):=(by rw [VD _ oA];omega);have e3:(p:Int)+64=(p2:Int):=oA;have hcut:∀W,(Instr.sliceAt 22 (.slice (some ⟨g,0,none⟩) n c) (some (.int .i64 (p:Int))) (some (.int .i64 (p2:Int))) none).run prog W= .ok (.slice (some ⟨g,p,none⟩) 64 (c-p)) W:=fun W=>by
        have:=vQ (P:=prog) underlying22 jk g n c p p2 oA oA W;rwa [show p2-p=64 by omega] at this
       have hrow:ah wr (some ⟨g,p,none⟩) (((mL l).drop p).take 64):=by
        have h1:=aw.drop p hJ.row;rw [VS,<-List.map_drop] at h1;have h2:=aw.take 64 h1;rwa [<-WE] at h2
       have hml:(((mL l).drop p).take 64).length=64:=(by rw [ltA,ldA,<-HFL.out];omega);have hcm:∀j,j<8->cmp (stt (mL l) i) (wd (((mL l).drop p).take 64) 0) j=stt (mL l) (i+1) j:=fun j hj=>by
        rw [stt];refine yE (fun _ _=>rfl) (fun t ht=>Ha (fun q hq=> ?_) ht) j hj;unfold byt;rw [VS,VX,VX,WK hq,WD,hp]
       obtain ⟨m,hm⟩:=Le (((mL l).drop p).take 64);rw [<-hm] at hrow hml hcm;have HCM:=Hd hcm;have HF3:=Hd hf;have HP:=Hd hp;have HP2:=Hd hp2;clear hm hcm hf hp hp2 hpn e3 hfm;go_wp2_with fail;refine aj true Old Old.refl Old.trans (.step 0 (.step 1 (.step 2 (.step 3 (.step 4 (.step 5 (.step 6 (.step 7 (.step 8 .done))))))))) krA krA cdA ?_;refine ci (v:= .agg (vA 8 fun j=>wv (stt (mL l) i j))) rfl rfl rfA (fun W hW=>aI 267 xh _ rfl rfl rfl (hJ.hst.drew.old hW).cells (cM _ _)) ?_;simp only [Act.put,sTA,List.set]
       repeat (first|refine tsA ?_|refine tqA ?_)
       refine ci (v:= .agg (vA 64 fun j=>wv (kwd j))) rfl rfl rfA (fun W hW=>aI 268 Ao _ rfl rfl rfl (hJ.kst.drew.old hW).cells (cM _ _)) ?_;simp only [Act.put,sTA,List.set];refine an rfl rfl rfA (fun K hK=> ?_);go_wp2_with fail;refine (zz (stt (mL l) i) _ (c-p) m _ hrow.drew hml).mono ?_;rintro e w8 ⟨rfl,hb8⟩;go_wp2_with fail;refine hK _ _ hb8 ?_;clear hK K;have hS8:=hJ.hst.drew.old hb8;have hsz8:=hJ.below.size;have hlt8:=hJ.hst.lt;refine az rfl rfl rfA (fun K' hK'=> ?_);refine bf 267 xh _ _ rfl rfl rfl hS8 (ax _ _) (by rw [ax];omega) (du fun _ _=>rfl) ?_;refine hK' _ _ ?_;clear hK';refine ap ?_;rw [ki _ _ (by rw [ax,ax])];refine jI (fun W0=>SrJ w1 B V Kb (stt (mL l) (i+1)) (mL l) g W0) ⟨?_,(hS8.setRow _).ofV fun j hj=>by rw [HCM.out j hj],(hJ.kst.drew.old hb8).setRow_other _ _ oA,ag (hJ.below.drew.trans (hb8.mono soA)) hBV _⟩ ?_
       .exact (hJ.row.drew.below hb8).grown (pK (Vv _ _) _) soA
       clear hJ hb8 hS8 hsz8 hlt8 hcut hrow;rintro w9 hJ;go_wp2_with fail;go_roundg (gk-1)
       case rel=>
        have hf:=HF3.out;have hp:=HP.out;have hp2:=HP2.out;exact ⟨i+1,oA,gnA,hJ⟩
       case measure=>have hf:=HF3.out;omega
      .obtain rfl:i=N:=oA;have hfm:=HFM.out;obtain ⟨p,hp⟩:=Le (64*i);have hpI:64*(i:Int)=(p:Int):=oA;rw [hpI];have tt:decide (p<n)=false:=soA;have hE:stt (mL l) i=CI l:=(by rw [CI,<-HFL.out,<-HN.out]);rw [hE] at hJ;obtain ⟨hrow,hS,hKs,hb⟩:=hJ;clear hrow hKs hE hfm hf hpI hp;go_wp2_with fail;obtain ⟨O,hO⟩:=Le wr.heap.size;have hVO:V<O:=(by have:=hS.lt;omega);have hO0:=Blk.new wr (vA 32 fun _=> .int .u8 0) 170;rw [<-hO] at hO0⊢;have hszb:=hb.size;refine af (fun W0=>Sr4 w1 B V O l 32 (.int .i64 0) W0) ⟨0,oA,rfl,hS.alloc _,hO0.ofV fun j _=>by rw [if_neg oA],hb.alloc oA _⟩ ?_;clear hO hO0 hS hb hszb;rintro w8 hst;go_loopg [10] 32 (Sr4 w1 B V O l)
       case atStart=>exact hst
       case round=>
        clear hst;obtain ⟨k,hf,rfl,hS,hO,hb⟩:=hrel;by_cases hk:k<32
        .have tk:decide ((k:Int)<32)=true:=soA;have hkI:(k:Int)<32:=oA;obtain ⟨p,hp⟩:=Le (k/4);have hpI:(k:Int)/4=(p:Int):=oA;have hp8:(p:Int)<8:=oA;obtain ⟨q,hq⟩:=Le (k%4);have hqI:(k:Int)%4=(q:Int):=oA;obtain ⟨s,hs⟩:=Le (24-8*q);have hq4:(q:Int)<4:=oA;have hsI:24-8*(q:Int)=(s:Int):=oA;have hs24:(s:Int)<=24:=oA;have c0:wr.cell? ⟨V,p,none⟩=some (.int .u32 (U32 (CI l p))):=hS.atV oA rfl;have c1:=hO.atV hk rfl;have f1:=hO.free;have HF4:=Hd hf;have HP:=Hd hp;have HQ:=Hd hq;have HSS:=Hd hs;clear hf hp hq hs;go_wp2_with fail;clear c0 c1 f1;go_roundg (gk-1)
         case rel=>
          have:=HF4.out;refine ⟨k+1,oA,gnA,hS.other _ _ (by show V≠O;omega),(hO.setV hk _).ofV fun j _=> ?_,hb.setCell (by show B<=O;omega) _⟩;exact qj l j k _ (by rw [dgb,<-HQ.out,<-HSS.out,<-HP.out];exact qk _ s _ rfl)
         case measure=>have:=HF4.out;omega
        .obtain rfl:k=32:=oA;have tk:decide (((32:Nat):Int)<32)=false:=skA;replace hO:=hO.ofV (g:=fun j=>bv (dgb l j)) fun j hj=>if_pos hj;have hRR:Blk wr H (vA 32 fun _=> .int .u8 0) 170:=hR.below hb (by rw [HB.out];omega);clear hf hS;go_wp2_with (first|refine am rfl 170 fG _ rfl rfl hO (ax _ _) ?_|refine aa rfl 170 fG (.tmp 2) _ (cells:=dgA l) rfl rfl rfl hRR (ax _ _) (ax _ _) (du fun _ _=>rfl) ?_);refine cv rfl fG rfl (hRR.setRow _) (ax _ _) rfl ⟨rfl,?_⟩;exact ag (hb0.trans (hb.mono (by rw [HB.out];omega))) (Lt _) _
  .have t56:((q:Int) !=56)=true:=soA;have hn1:n<140737488354000:=oA;have hzl:z<zN L:=oA;clear hn hq hz hzn hZ;go_wp2_with (at_builtin;refine al rfl (.tmp 21) (.tmp 22) 22 rfl dK rfl (hI.own.alloc _) rfl (aw.new' _ _ _ _ skA) rfA (by exact dg _ rfl) mxA oA soA ?_);intro a4 c4 w4 own4 hg4;have hb4:=(hI.own.alloc (.cells #[Value.int .u8 0] 5)).grown (hI.below.alloc oA _) (Lt _) hg4 soA;clear hg4;go_wp2_with fail;go_roundg (gk-1)
   case rel=>
    have hf:=HF.out;have hn:=HN.out;refine ⟨z+1,n+1,a4,c4,oA,oA,rfl,⟨?_,hb4⟩⟩;rw [xV,VG];exact own4
   case measure=>have hf:=HF.out;omega
theorem tD (n i:Nat) (p:Int) (hp:p=((2^(56-8*i):Nat):Int)):(n:Int)/p%256=U8 (iL n i):=by
 have e:U8 (iL n i)=(((n/2^(56-8*i))%2^8:Nat):Int):=by
  show (((BitVec.ofNat 8 (n/2^(56-8*i))).toNat:Nat):Int)=_;rw [We]
 rw [e,hp];generalize 2^(56-8*i)=P;rw [Int.natCast_emod,Int.natCast_ediv];rfl
def Ei1 (w:World) (n:Nat) (f:Nat) (v i:Value) (wr:World):Prop:=
 ∃(t:Nat) (a:Option Addr) (c:Nat),f+t=8/\i= .int .i64 (t:Int)/\v= .slice a t c/\Own wr w.heap.size 5 1 a t c (((eJ n).take t).map bv)/\Below w.heap.size w wr
theorem Dl (n t:Nat) (h:t<8):(eJ n).take (t+1)=(eJ n).take t++ [iL n t]:=by
 rw [VW (by rw [aL];exact h)];simp [eJ]
theorem iu (n:Nat) (hn:n<18446744073709551616) (w:World):Calls prog 151 #[.int .u64 (n:Int)] w fun e w'=>∃a c,e= .returned (.slice a 8 c)/\Own w' w.heap.size 5 1 a 8 c ((eJ n).map bv)/\Below w.heap.size w w':=by
 have hnI:(n:Int)<=18446744073709551615:=oA;have hn0:(0:Int)<=(n:Int):=oA;go_enter func151,ntmps151;go_wp2_with fail;go_loopg [3,4] 8 (Ei1 w n)
 case atStart=>exact ⟨0,none,0,oA,rfl,rfl,Own.nil _ _ _ _,AT _ _⟩
 case round=>
  obtain ⟨t,a,c,hf,rfl,rfl,ho,hb⟩:=hrel;have HF:=Hd hf;have hs:=hb.size;clear hf;by_cases ht:t<8
  .have HQ:=Hd (Dl n t ht);have hE:=fun p=>tD n t p;have HE:=Hd hE;clear hE;have h8:t=0\/t=1\/t=2\/t=3\/t=4\/t=5\/t=6\/t=7:=oA;rcases h8 with rfl|rfl|rfl|rfl|rfl|rfl|rfl|rfl
   all_goals
    go_wp2_with (at_builtin;refine al rfl (.tmp 9) (.tmp 16) 22 rfl dK rfl (ho.alloc _) rfl (aw.new' _ _ _ _ skA) rfA (by exact dg _ rfl) mxA oA soA ?_)
    intro a4 c4 w4 own4 hg4
    have hb4:=(ho.alloc (.cells #[_] 5)).grown (hb.alloc hs _) (Lt _) hg4 soA
    clear hg4
    go_wp2_with fail
    go_roundg (gk-1)
    case rel=>
     have hf:=HF.out
     refine ⟨_,a4,c4,oA,gnA,rfl,?_,hb4⟩
     rw [HQ.out,VG]
     first
      |(have E:=HE.out _ rfl;simp only [WY,XF,bv];rw [<-E];exact own4)
      |(have E:=HE.out 72057594037927936 rfl;have E2:(n:Int)/72057594037927936=U8 (iL n 0):=by {rw [<-E];omega};simpa [bv,E2] using own4)
      |(have E:=HE.out 1 rfl;have E2:(n:Int)%256=U8 (iL n 7):=by {rw [<-E];omega};simpa [bv,E2] using own4)
    case measure=>have hf:=HF.out;omega
  .obtain rfl:t=8:=(by have:=HF.out;omega);go_wp2_with fail;go_ret;exact ⟨a,c,rfl,by rw [Vj (by rw [aL];omega)] at ho;exact ho,hb⟩
end
end Go.Proofs.YtioigihakjlopaaGreat

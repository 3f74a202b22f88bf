import Derived.Test.YtioigihakjlopaaGreatVF19
namespace Go.Proofs.YtioigihakjlopaaGreat
open Go.Proofs.Tryz
set_option linter.unusedVariables false
set_option linter.unusedSimpArgs false
set_option maxHeartbeats 16000000
set_option maxRecDepth 100000
section
open Go.RowKit
attribute [local go_sem] dn dp dL bN
def bn (k:Nat):BitVec 8:=BitVec.ofNat 8 k
theorem mF (a:BitVec 8):bn a.toNat=a:=by simp [bn]
theorem sh {k:Nat} (h:k<256):(bn k).toNat=k:=by simp [bn];omega
def cp (k m:Nat) (key:Nat->BitVec 8) (j:Nat):BitVec 8:=
 if j<256 then (if j<k then bx (bn j) else 0#8)
 else if j<512 then (if (un (bn (j-256))).toNat<k then un (bn (j-256)) else 0#8)
 else if j<512+m then rk key ((j-512)/16) ((j-512)%16) else 0#8
def cp1 (k:Nat) (key:Nat->BitVec 8) (j:Nat):BitVec 8:=if j=k then bx (bn k) else cp k 0 key j
theorem Jq (k:Nat) (hk:k<256) (key:Nat->BitVec 8):∀j,j<688->(if j=256+(bx (bn k)).toNat then bn k else cp1 k key j)=cp (k+1) 0 key j:=fun j hj=>by
 have hb:(bx (bn k)).toNat<256:=(bx (bn k)).isLt;unfold cp1 cp;by_cases h1:j<256
 .rw [if_neg oA];by_cases h2:j=k
  .subst h2;rw [if_pos rfl,if_pos h1,if_pos oA]
  .rw [if_neg h2,if_pos h1,if_pos h1];by_cases h3:j<k
   .rw [if_pos h3,if_pos oA]
   .rw [if_neg h3,if_neg oA]
 .by_cases h2:j<512
  .rw [if_neg (show ¬j=k by omega),if_neg h1,if_pos h2,if_neg h1,if_pos h2];have key1:j=256+(bx (bn k)).toNat↔un (bn (j-256))=bn k:=by
    constructor
    .intro e;rw [e,Nat.add_sub_cancel_left,mF,Oq]
    .intro e;have:=WG bx e;rw [OT] at this;have h3:=WG BitVec.toNat this;rw [sh oA] at h3;omega
   by_cases e:j=256+(bx (bn k)).toNat
   .have e2:=key1.1 e;rw [if_pos e,e2,sh hk,if_pos oA]
   .rw [if_neg e];have e2:¬(un (bn (j-256))).toNat=k:=fun q=>e (key1.2 (Wd (by rw [q,sh hk])));by_cases h3:(un (bn (j-256))).toNat<k
    .rw [if_pos h3,if_pos oA]
    .rw [if_neg h3,if_neg oA]
  .simp [h1,h2,show ¬j=256+(bx (bn k)).toNat by omega,show ¬j=k by omega]
theorem Jp (key:Nat->BitVec 8) (j:Nat):cp 0 0 key j=0#8:=by
 unfold cp;by_cases h1:j<256<;>by_cases h2:j<512<;>simp [h1,h2]
def cph (key:Nat->BitVec 8):Nat->BitVec 8:=cp 256 176 key
theorem Jo (key:Nat->BitVec 8) (i:Nat) (h:i<256):cph key i=bx (bn i):=by simp [cph,cp,h]
theorem Jn (key:Nat->BitVec 8) (r i:Nat) (hr:r<11) (h:i<16):cph key (512+r*16+i)=rk key r i:=by
 simp only [cph,cp];rw [if_neg oA,if_neg oA,if_pos oA,show (512+r*16+i-512)/16=r by omega,show (512+r*16+i-512)%16=i by omega]
theorem CX:Tryz.prog.built 233 []=some (fA 688 fun _=>0#8):=by kernel_rfl
theorem uY {n o m:Nat} (s t:Nat->BitVec 8) (h:o+m<=n):cD (fA n s) o (fA m t)=fA n fun j=>if o<=j/\j<o+m then t (j-o) else s j:=by
 apply Wr;intro j;simp only [cD,aD];have hl:(List.take o (fA n s).toList++(fA m t).toList++List.drop (o+m) (fA n s).toList).toArray[j]? =(List.take o (fA n s).toList++((fA m t).toList++List.drop (o+m) (fA n s).toList))[j]? :=skA;rw [hl];by_cases h1:j<o
 .rw [Vm (by simp [aD];omega),WK h1];have:=eE s (show j<n by omega);rw [<-WO] at this;rw [this,eE _ oA,if_neg oA]
 .rw [WU (by simp [aD];omega)];have e:(List.take o (fA n s).toList).length=o:=(by simp [aD];omega);rw [e];by_cases h2:j<o+m
  .rw [Vm (by simp [aD];omega)];have:=eE t (show j-o<m by omega);rw [<-WO] at this;rw [this,eE _ oA,if_pos ⟨oA,h2⟩]
  .rw [WU (by simp [aD];omega),WD];have e2:o+m+(j-o-(fA m t).toList.length)=j:=(by simp [aD];omega);rw [e2,WO];by_cases h3:j<n
   .rw [eE _ h3,eE _ h3,if_neg oA]
   .rw [Vy (by simp [aD];omega),Vy (by simp [aD];omega)]
theorem Jr (key:Nat->BitVec 8):∀j,j<688->(if 512<=j/\j<512+16 then key (j-512) else cp 256 0 key j)=cp 256 16 key j:=fun j hj=>by
 unfold cp;by_cases h1:j<256
 .simp [h1,show ¬512<=j by omega]
 .by_cases h2:j<512
  .simp [h1,h2,show ¬512<=j by omega]
  .by_cases h3:j<512+16
   .rw [if_pos ⟨oA,h3⟩,if_neg h1,if_neg h2,if_pos h3,show (j-512)/16=0 by omega,rk,nT _ oA,show (j-512)%16=j-512 by omega]
   .simp [h1,h2,h3]
def tw (r:BitVec 8) (w:Nat->BitVec 8) (k c:Nat):BitVec 8:=if c<k then nkc r w c ((k-1-c)/4) else nk0 r w c
theorem Hi (r:BitVec 8) (w:Nat->BitVec 8) (k:Nat):∀c,c<4->(if c=k%4 then tw r w k (k%4)^^^w k else tw r w k c)=tw r w (k+1) c:=fun c hc=>by
 by_cases e:c=k%4
 .rw [if_pos e,<-e];unfold tw;by_cases h:c<k
  .rw [if_pos h,if_pos oA,show (k+1-1-c)/4=(k-1-c)/4+1 by omega,nkc,show 4*((k-1-c)/4+1)+c=k by omega]
  .rw [if_neg h,if_pos oA,show (k+1-1-c)/4=0 by omega,nkc,show c=k by omega]
 .rw [if_neg e];unfold tw;by_cases h:c<k
  .rw [if_pos h,if_pos oA,show (k+1-1-c)/4=(k-1-c)/4 by omega]
  .rw [if_neg h,if_neg oA]
theorem KC (key:Nat->BitVec 8) (i k:Nat) (hk:k<16):tw (rc i) (rk key i) (k+1) (k%4)=rk key (i+1) k:=by
 rw [rk,nk,nT _ hk];unfold tw;rw [if_pos oA,show (k+1-1-k%4)/4=k/4 by omega]
theorem LN (key:Nat->BitVec 8) (i k:Nat) (hi:i<11) (hk:k<16):∀j,j<688->(if j=512+i*16+k then rk key i k else cp 256 (i*16+k) key j)=cp 256 (i*16+(k+1)) key j:=fun j hj=>by
 unfold cp;by_cases h1:j<256
 .simp [h1,show ¬j=512+i*16+k by omega]
 .by_cases h2:j<512
  .simp [h1,h2,show ¬j=512+i*16+k by omega]
  .by_cases e:j=512+i*16+k
   .rw [if_pos e,if_neg h1,if_neg h2,if_pos oA,show (j-512)/16=i by omega,show (j-512)%16=k by omega]
   .rw [if_neg e,if_neg h1,if_neg h2,if_neg h1,if_neg h2];by_cases h3:j<512+(i*16+k)
    .rw [if_pos h3,if_pos oA]
    .rw [if_neg h3,if_neg oA]
theorem Jj {n:Nat} {s t:Nat->BitVec 8} (h:∀i,i<n->s i=t i):fL n s=fL n t:=by
 unfold fL;apply WS;intro i hi;rw [h i (Wk.1 hi)]
theorem wP {n o m:Nat} (s:Nat->BitVec 8) (h:o+m<=n):((fA n s).toList.drop o).take m=fL m fun j=>s (o+j):=by
 apply List.ext_getElem?;intro j;by_cases hj:j<m
 .rw [WK hj,WD,WO,eE _ oA];simp [fL,hj,fv]
 .rw [WL soA,WL (by simp [fL];omega)]
theorem LM (key:Nat->BitVec 8) (m:Nat):∀j,j<16->cp 256 ((m+1)*16) key (512+m*16+j)=rk key m j:=fun j hj=>by
 unfold cp;rw [if_neg oA,if_neg oA,if_pos oA,show (512+m*16+j-512)/16=m by omega,show (512+m*16+j-512)%16=j by omega]
theorem LO (m:Nat) (key:Nat->BitVec 8) (a:BitVec 8):cp 256 m key a.toNat=bx a:=by
 have:=a.isLt;unfold cp;rw [if_pos this,if_pos this,mF]
def Mx (w:World) (H:Nat) (key:Nat->BitVec 8) (f:Nat) (i r:Value) (wr:World):Prop:=
 ∃n:Nat,f+n=11/\1<=n/\i= .int .i64 n/\r= .int .u8 (B8 (rc (n-1)))/\Blk wr (H+1) (fA 688 (cp 256 (n*16) key)) 233/\Below H w wr
def JH (w:World) (H G n m:Nat) (key:Nat->BitVec 8) (f:Nat) (i:Value) (wr:World):Prop:=
 ∃k:Nat,f+k=16/\i= .int .i64 k/\Blk wr (H+1) (fA 688 (cp 256 (n*16+k) key)) 233/\Blk wr G (fA 16 (rk key m)) 169/\Blk wr (G+1) (fA 4 (tw (rc m) (rk key m) k)) 235/\Below H w wr
theorem MO (r:BitVec 8) (w:Nat->BitVec 8):cD #[.int .u8 0,.int .u8 0,.int .u8 0,.int .u8 0] 0 #[.int .u8 (B8 (bx (w 13)^^^r)),.int .u8 (B8 (bx (w 14))),.int .u8 (B8 (bx (w 15))),.int .u8 (B8 (bx (w 12)))]=fA 4 (tw r w 0):=by
 have h:fA 4 (tw r w 0)= #[fv (tw r w 0 0),fv (tw r w 0 1),fv (tw r w 0 2),fv (tw r w 0 3)]:=rfl;rw [h];simp [cD,tw,nk0,fv]
theorem Ou (k:Nat):((k:Int)).tmod 4=((k%4:Nat):Int):=by rw [WJ oA];omega
theorem Bz (key:Nat->BitVec 8) (w:World):
  Calls prog 140 #[.agg (fA 16 key)] w fun e w'=>∃g,e= .returned (.pointer (some ⟨g,0,none⟩))/\w.heap.size<=g/\Blk w' g (fA 688 (cph key)) 233/\Below w.heap.size w w':=by
 have c0:(Tryz.prog.built 233 []).getD #[]=fA 688 (cp 0 0 key):=(by rw [CX];exact tm fun i _=>(Jp key i).symm);have C0:=Hd c0;clear c0;go_enter func140,ntmps140;go_wp2_with (refine wpList_build rfl 233 #[] rfl (by simp [CX]) ?_);rw [C0.out];refine af (fun W0=>Blk W0 w.heap.size (fA 16 key) 169/\Blk W0 (w.heap.size+1) (fA 688 (cp 0 0 key)) 233/\Below w.heap.size w W0) ⟨Blk.new2 _ _ _ _,Blk.new2' _ _ _ _,cL⟩ ?_;rintro w0 ⟨hK0,hC0,hb0⟩;obtain ⟨H,hH⟩:=Le w.heap.size;rw [<-hH] at hK0 hC0 hb0⊢;have HH:=Hd hH;clear hH C0;go_loopw [12] (fun i wr=>∃k:Nat,k<=256/\i= .int .i64 k/\Blk wr H (fA 16 key) 169/\Blk wr (H+1) (fA 688 (cp k 0 key)) 233/\Below H w wr) (fun i _=>256-(intOf i).toNat)
 case atStart=>exact ⟨0,oA,rfl,hK0,hC0,hb0⟩
 case round=>
  clear hK0 hC0 hb0;obtain ⟨k,hk,rfl,hK,hC,hb⟩:=hrel;by_cases hlt:k<256
  .have tk:decide ((k:Int)<256)=true:=soA;go_wp2_with fail;have hw:IntKind.u8.wrap (k:Int)=B8 (bn k):=(by rw [IntWalk.u8_in _ oA];exact oJ k hlt);have hkI:(k:Int)<256:=oA;refine aj true Old Old.refl Old.trans (.step 0 (.step 1 (.step 2 (.step 3 (.step 5 (.step 6 (.step 4 (.step 7 (.step 8 .done))))))))) krA krA cdA ?_
   repeat (first|refine tsA ?_|refine tqA ?_)
   refine an rfl rfl rfA (fun K hK=> ?_);go_wp2_with fail;refine (Jy (bn k) _).mono ?_;rintro e w' ⟨rfl,rfl⟩;go_wp2_with fail;refine hK _ _ (Old.refl _) ?_;clear hK K
   repeat (first|refine tsA ?_|refine tqA ?_)
   have hCd:=hC.drew;have r3:=hCd.rule;have f3:=hCd.free;have ck3:=eE (cp k 0 key) (show k<688 by omega);refine az rfl rfl rfA (fun K hK=> ?_);go_wp2_with fail;refine ap ?_;clear r3 f3 ck3 hw;go_upto_region 6 with (fail);have hC1:Blk (wr.drew.setCell ⟨H+1,k,none⟩ (.int .u8 (B8 (bx (bn k))))) (H+1) (fA 688 (cp1 k key)) 233:=(hCd.setF (show k<688 by omega) (bx (bn k))).ofF fun i _=>rfl;have hK1:=hK.drew.other ⟨H+1,k,none⟩ (.int .u8 (B8 (bx (bn k)))) skA;have hb1:Below H w (wr.drew.setCell ⟨H+1,k,none⟩ (.int .u8 (B8 (bx (bn k))))):=hb.drew.setCell skA _;refine af (fun W0=>Blk W0 H (fA 16 key) 169/\Blk W0 (H+1) (fA 688 (cp1 k key)) 233/\Below H w W0) ⟨hK1,hC1,hb1⟩ ?_;clear hK hC hb hK1 hC1 hb1 hCd;rintro w2 ⟨hK,hC,hb⟩;have r2:=jV (bx (bn k));have r4:=qA (bx (bn k));have r5:=gu (bx (bn k));have hw:IntKind.u8.wrap (k:Int)=B8 (bn k):=(by rw [IntWalk.u8_in _ oA];exact oJ k hlt);have C1:∀W,Old w2.drew W->W.cell? ⟨H+1,k,none⟩=some (.int .u8 (B8 (bx (bn k)))):=fun W h=>(hC.drew.old h).atF oA (by simp [cp1]);refine aj true Old Old.refl Old.trans (.step 0 (.step 1 (.step 2 (.step 3 (.step 4 (.step 5 (.step 6 (.step 7 (.step 8 (.step 9 (.step 10 (.step 11 (.step 12 .done))))))))))))) krA krA cdA ?_
   repeat (first|refine tsA ?_|refine tqA ?_)
   have hCd:=hC.drew;have r3:=hCd.rule;have f3:=hCd.free;have hlt2:256+(bx (bn k)).toNat<688:=(by have:=(bx (bn k)).isLt;omega);have ck3:=eE (cp1 k key) hlt2;refine az rfl rfl rfA (fun K hK=> ?_);go_wp2_with fail;refine ap ?_;clear r3 f3 ck3 hw C1 r2 r4 r5;go_wp2_with fail;go_roundw
   case rel=>exact ⟨k+1,oA,gnA,hK.drew.other _ _ skA,(hCd.setF hlt2 (bn k)).ofF (Jq k hlt key),hb.drew.setCell skA _⟩
   case measure=>simp [intOf];omega
  .obtain rfl:k=256:=oA;have tk:decide (((256:Nat):Int)<256)=false:=skA;go_wp2_with fail;have hKc:=fun W (h:Old wr.drew W)=>(hK.drew.old h);refine aj true Old Old.refl Old.trans (.step 0 (.step 1 (.step 2 (.step 3 (.step 4 (.step 5 .done)))))) krA krA cdA ?_
   repeat (first|refine tsA ?_|refine tqA ?_)
   refine ci (v:= .agg (fA 16 key)) rfl rfl rfA (fun W hW=>aI 169 dU _ rfl rfl rfl (hKc W hW).cells (dd _ _)) ?_;simp only [Act.put,sTA,List.set]
   repeat (first|refine tsA ?_|refine tqA ?_)
   clear hKc;have hCd:=hC.drew;refine az rfl rfl rfA (fun K hK=> ?_);refine bf 169 dU _ _ rfl rfl rfl hCd (aD _ _) (by simp [aD]) (fj _ _) ?_;refine hK _ _ ?_;clear hK K;refine ap ?_;have hC1:=(hCd.setRow (cD (fA 688 (cp 256 0 key)) 512 (fA 16 key)));rw [uY _ _ oA] at hC1⊢;have hC2:=hC1.ofF (Jr key);have hb2:=ag (B:=H) (g:=H+1) (hb.drew) oA (fA 688 fun j=>if 512<=j/\j<512+16 then key (j-512) else cp 256 0 key j);clear hC1 hCd hK hC hb;go_upto_region 9 with (fail);refine af (fun W0=>Blk W0 (H+1) (fA 688 (cp 256 16 key)) 233/\Below H w W0) ⟨hC2,hb2⟩ ?_;clear hC2 hb2;rintro w2 ⟨hC,hb⟩;go_wp2_with fail;go_loopg [6,5] 10 (Mx w H key)
   case atStart=>exact ⟨1,oA,oA,rfl,rfl,hC,hb⟩
   case round=>
    clear hC hb;obtain ⟨n,hf,hn1,rfl,rfl,hC,hb⟩:=hrel;by_cases hn:n<11
    .have tn:decide ((n:Int)<11)=true:=soA;obtain ⟨m,hm⟩:∃m,n=m+1:=⟨n-1,oA⟩;have hm1:(n:Int)-1=(m:Int):=oA;have hm11:(m:Int)<11:=oA;have hm0:(0:Int)<=(m:Int):=oA;rw [show n-1=m by omega];have HM:=Hd hm;have hC':=hC;rw [hm] at hC';have HF0:=Hd hf;clear hm hf;go_wp2_with (first|refine dk rfl 169 dU _ rfl rfl hC' (part:=fL 16 (rk key m)) (by rw [wP _ oA];exact Jj (LM key m)) (dd _ _) ?_|refine aa rfl 169 dU (.tmp 7) _ (cells:=fA 16 (rk key m)) rfl rfl rfl (Blk.new _ _ _) (aD _ _) rfl (fj _ _) ?_);obtain ⟨G,hG⟩:=Le wr.heap.size;have hGH:H+1<G:=(by rw [hG];exact hC.lt);rw [<-hG];have hBG:Blk (wr.alloc (.cells #[.int .u8 0,.int .u8 0,.int .u8 0,.int .u8 0,.int .u8 0,.int .u8 0,.int .u8 0,.int .u8 0,.int .u8 0,.int .u8 0,.int .u8 0,.int .u8 0,.int .u8 0,.int .u8 0,.int .u8 0,.int .u8 0] 169)) G #[.int .u8 0,.int .u8 0,.int .u8 0,.int .u8 0,.int .u8 0,.int .u8 0,.int .u8 0,.int .u8 0,.int .u8 0,.int .u8 0,.int .u8 0,.int .u8 0,.int .u8 0,.int .u8 0,.int .u8 0,.int .u8 0] 169:=(by rw [hG];exact Blk.new _ _ _);refine af (fun W0=>Blk W0 (H+1) (fA 688 (cp 256 (n*16) key)) 233/\Blk W0 G (fA 16 (rk key m)) 169/\Below H w W0/\W0.heap.size=G+1) ⟨(hC.alloc _).setRow_other _ _ oA,hBG.setRow _,ag (hb.alloc oA _) oA _,by simp [<-hG]⟩ ?_;clear hBG hC hC' hb hG;rintro w3 ⟨hC,hW,hb,hsz⟩;have q13:=jV (rk key m 13);have p13:=qA (rk key m 13);have z13:=gu (rk key m 13);have q14:=jV (rk key m 14);have p14:=qA (rk key m 14);have z14:=gu (rk key m 14);have q15:=jV (rk key m 15);have p15:=qA (rk key m 15);have z15:=gu (rk key m 15);have q12:=jV (rk key m 12);have p12:=qA (rk key m 12);have z12:=gu (rk key m 12);have D13:∀W,Old w3.drew W->W.cell? ⟨G,13,none⟩=some (.int .u8 (B8 (rk key m 13))):=fun W h=>(hW.drew.old h).atF oA rfl;have D14:∀W,Old w3.drew W->W.cell? ⟨G,14,none⟩=some (.int .u8 (B8 (rk key m 14))):=fun W h=>(hW.drew.old h).atF oA rfl;have D15:∀W,Old w3.drew W->W.cell? ⟨G,15,none⟩=some (.int .u8 (B8 (rk key m 15))):=fun W h=>(hW.drew.old h).atF oA rfl;have D12:∀W,Old w3.drew W->W.cell? ⟨G,12,none⟩=some (.int .u8 (B8 (rk key m 12))):=fun W h=>(hW.drew.old h).atF oA rfl;have D:∀(x:BitVec 8) W,Old w3.drew W->W.cell? ⟨H+1,x.toNat,none⟩=some (.int .u8 (B8 (bx x))):=fun x W h=>(hC.drew.old h).atF (by have:=x.isLt;omega) (LO _ _ _);clear hm1 hm11 hm0
     refine aj true Old Old.refl Old.trans (.step 0 (.step 1 (.step 2 (.step 3 (.step 4 (.step 5 (.step 6 (.step 7 (.step 8 (.step 9 (.step 10 (.step 11 (.step 12 (.step 13 (.step 14 (.step 15 (.step 16 (.step 17 (.step 18 (.step 19 (.step 20 (.step 21 (.step 22 (.step 23 (.step 24 (.step 25 (.step 26 (.step 27 (.step 28 (.step 29 (.step 30 (.step 31 (.step 32 .done))))))))))))))))))))))))))))))))) krA krA cdA ?_
     repeat (first|refine tsA ?_|refine tqA ?_)
     refine an rfl rfl rfA (fun K hK=> ?_);go_wp2_with fail;refine hK _ _ ((AT _ _).alloc (Lt _) _) ?_;clear hK K;clear q12 q13 q14 q15 p12 p13 p14 p15 z12 z13 z14 z15 D D12 D13 D14 D15;have hsz':w3.drew.heap.size=G+1:=hsz;have hBT:Blk (w3.drew.alloc (.cells #[.int .u8 0,.int .u8 0,.int .u8 0,.int .u8 0] 235)) (G+1) #[.int .u8 0,.int .u8 0,.int .u8 0,.int .u8 0] 235:=(by rw [<-hsz'];exact Blk.new _ _ _);rw [hsz'] at*;refine az rfl rfl rfA (fun K hK=> ?_);refine bf 235 JZ _ _ rfl rfl rfl hBT rfl skA rfl ?_;refine hK _ _ ?_;clear hK K;refine ap ?_;have hT:=hBT.setRow (cD #[.int .u8 0,.int .u8 0,.int .u8 0,.int .u8 0] 0 #[.int .u8 (B8 (bx (rk key m 13)^^^rc m)),.int .u8 (B8 (bx (rk key m 14))),.int .u8 (B8 (bx (rk key m 15))),.int .u8 (B8 (bx (rk key m 12)))]);rw [MO] at hT⊢;have hC1:=(hC.drew.alloc (.cells #[.int .u8 0,.int .u8 0,.int .u8 0,.int .u8 0] 235)).setRow_other (G+1) (fA 4 (tw (rc m) (rk key m) 0)) oA;have hW1:=(hW.drew.alloc (.cells #[.int .u8 0,.int .u8 0,.int .u8 0,.int .u8 0] 235)).setRow_other (G+1) (fA 4 (tw (rc m) (rk key m) 0)) oA;have hb1:=ag (B:=H) (g:=G+1) (hb.drew.alloc (by have e:w3.drew.heap.size=w3.heap.size:=rfl;omega) (.cells #[.int .u8 0,.int .u8 0,.int .u8 0,.int .u8 0] 235)) oA (fA 4 (tw (rc m) (rk key m) 0));go_upto_region 15 with (fail);refine af (fun W0=>Blk W0 (H+1) (fA 688 (cp 256 (n*16) key)) 233/\Blk W0 G (fA 16 (rk key m)) 169/\Blk W0 (G+1) (fA 4 (tw (rc m) (rk key m) 0)) 235/\Below H w W0) ⟨hC1,hW1,hT,hb1⟩ ?_;clear hC1 hW1 hT hb1 hBT hsz hsz' hC hW hb;rintro w4 ⟨hC,hW,hT,hb⟩;go_wp2_with (go_at_call 169;refine (lZ (rc m) 2#8 _).mono ?_;rintro e w' ⟨rfl,rfl⟩);obtain ⟨g0,rfl⟩:∃g:Nat,g=gk:=⟨_,rfl⟩;go_loopg [85] 16 (JH w H G n m key)
     case atStart=>exact ⟨0,oA,rfl,hC,hW,hT,hb⟩
     case round=>
      clear hC hW hT hb;obtain ⟨k,hf,rfl,hC,hW,hT,hb⟩:=hrel;by_cases hlt:k<16
      .have HF:=Hd hf;clear hf;have tk:decide ((k:Int)<16)=true:=soA;go_wp2_with fail;obtain ⟨c,hc⟩:=Le (k%4);have hc4:c<4:=oA;have hcI:(c:Int)<4:=oA;have hc0:(0:Int)<=(c:Int):=oA;have hct:((k:Int)).tmod 4=(c:Int):=(by rw [hc];exact Ou k);have hkI:(k:Int)<16:=oA;have HC:=Hd hc;clear hc;have C1:∀W,Old wr.drew W->W.cell? ⟨G+1,c,none⟩=some (.int .u8 (B8 (tw (rc m) (rk key m) k c))):=fun W h=>(hT.drew.old h).atF hc4 rfl;have C2:∀W,Old wr.drew W->W.cell? ⟨G,k,none⟩=some (.int .u8 (B8 (rk key m k))):=fun W h=>(hW.drew.old h).atF hlt rfl;refine aj true Old Old.refl Old.trans (.step 0 (.step 1 (.step 2 (.step 3 (.step 4 (.step 5 (.step 6 (.step 7 (.step 8 (.step 9 .done)))))))))) krA krA cdA ?_
       repeat (first|refine tsA ?_|refine tqA ?_)
       have hTd:=hT.drew;have r3:=hTd.rule;have f3:=hTd.free;have ck3:=eE (tw (rc m) (rk key m) k) hc4;refine az rfl rfl rfA (fun K hK=> ?_);go_wp2_with fail;refine ap ?_;clear r3 f3 ck3 C1 C2;have hT1:Blk _ (G+1) (fA 4 (tw (rc m) (rk key m) (k+1))) 235:=(hTd.setF hc4 (tw (rc m) (rk key m) k c^^^rk key m k)).ofF (by rw [HC.out];exact Hi (rc m) (rk key m) k);have hC1:=hC.drew.other ⟨G+1,c,none⟩ (.int .u8 (B8 (tw (rc m) (rk key m) k c^^^rk key m k))) (by show H+1≠G+1;omega);have hW1:=hW.drew.other ⟨G+1,c,none⟩ (.int .u8 (B8 (tw (rc m) (rk key m) k c^^^rk key m k))) (by show G≠G+1;omega);have hb1:Below H w (wr.drew.setCell ⟨G+1,c,none⟩ (.int .u8 (B8 (tw (rc m) (rk key m) k c^^^rk key m k)))):=hb.drew.setCell (by show H<=G+1;omega) _;go_upto_region 20 with (fail);refine af (fun W0=>Blk W0 (H+1) (fA 688 (cp 256 (n*16+k) key)) 233/\Blk W0 G (fA 16 (rk key m)) 169/\Blk W0 (G+1) (fA 4 (tw (rc m) (rk key m) (k+1))) 235/\Below H w W0) ⟨hC1,hW1,hT1,hb1⟩ ?_;clear hC1 hW1 hT1 hb1 hTd hC hW hT hb;rintro w5 ⟨hC,hW,hT,hb⟩;have D1:∀W,Old w5.drew W->W.cell? ⟨G+1,c,none⟩=some (.int .u8 (B8 (rk key n k))):=fun W h=>(hT.drew.old h).atF hc4 (by rw [HC.out,HM.out];exact KC key m k hlt);have hnI:(n:Int)<11:=oA;refine aj true Old Old.refl Old.trans (.step 0 (.step 1 (.step 2 (.step 3 (.step 4 (.step 5 (.step 6 (.step 7 (.step 8 (.step 9 (.step 10 (.step 11 .done)))))))))))) krA krA cdA ?_
       repeat (first|refine tsA ?_|refine tqA ?_)
       have hCd:=hC.drew;have r3:=hCd.rule;have f3:=hCd.free;have hlt3:512+n*16+k<688:=oA;have ck3:=eE (cp 256 (n*16+k) key) hlt3;refine az rfl rfl rfA (fun K hK=> ?_);go_wp2_with fail;refine ap ?_;clear r3 f3 ck3 D1 hct;go_wp2_with fail;go_roundg (gk-1)
       case rel=>
        have hf:=HF.out;exact ⟨k+1,oA,gnA,(hCd.setF hlt3 (rk key n k)).ofF (LN key n k hn hlt),hW.drew.other _ _ (by show G≠H+1;omega),hT.drew.other _ _ (by show G+1≠H+1;omega),hb.drew.setCell (by show H<=H+1;omega) _⟩
       case measure=>have hf:=HF.out;omega
      .obtain rfl:k=16:=oA;have tk:decide (((16:Nat):Int)<16)=false:=skA;go_wp2_with fail;go_roundg (g0-1)
       case rel=>
        have hm:=HM.out;have hf0:=HF0.out;exact ⟨n+1,oA,oA,gnA,by rw [show n+1-1=m+1 by omega];rfl,hC.ofF fun i _=>by rw [Ws,Nat.one_mul],hb⟩
       case measure=>have hf0:=HF0.out;omega
    .obtain rfl:n=11:=oA;have tn:decide (((11:Nat):Int)<11)=false:=skA;go_wp2_with fail;go_ret;rw [HH.out] at hb hC⊢;exact ⟨w.heap.size+1,rfl,oA,hC.ofF fun i _=>rfl,hb⟩
end
section
open Go.RowKit
attribute [local go_sem] dn dp dL bN
theorem Ox (s:Nat->BitVec 8):(tb 16 fun j=>bx (bn (s j).toNat))=thr bx s:=Ov fun j _=>by rw [mF]
theorem ze (gb gc:Nat) (s key:Nat->BitVec 8) (w:World) (hB:Blk w gb (fA 16 s) 169) (hC:Blk w gc (fA 688 (cph key)) 233):
  Calls prog 172 #[.pointer (some ⟨gb,0,none⟩),.pointer (some ⟨gc,0,none⟩)] w fun e w'=>
   e= .returned (.tuple #[])/\Blk w' gb (fA 16 (thr bx s)) 169/\w.grownBy w' (some gb):=by
 have:=vG gb gc 0 s (fun i=>bx (bn i)) w hB (Blk.ne hB hC dcA) (fun i hi=>by rw [VS];exact hC.atF oA (Jo key i hi));rw [Ox] at this;exact this
theorem Gl (gb gc r:Nat) (s key:Nat->BitVec 8) (w:World) (hr:r<11) (hB:Blk w gb (fA 16 s) 169) (hC:Blk w gc (fA 688 (cph key)) 233):
  Calls prog 170 #[.pointer (some ⟨gc,0,none⟩),.pointer (some ⟨gb,0,none⟩),.int .i64 (r:Int)] w fun e w'=>
   e= .returned (.tuple #[])/\Blk w' gb (fA 16 (sx s (rk key r))) 169/\w.grownBy w' (some gb):=
 IL gb gc r s (rk key r) w hB (Blk.ne hB hC dcA) hr (fun i hi=>hC.atF oA (Jn key r i hr hi))
theorem Bh (gb gc gp:Nat) (s key:Nat->BitVec 8) (w:World) (hB:Blk w gb (fA 16 s) 169) (hC:Blk w gc (fA 688 (cph key)) 233) (hP:w.cell? ⟨gp,0,none⟩=some (.pointer (some ⟨gc,0,none⟩))):
  Calls prog 171 #[.pointer (some ⟨gb,0,none⟩),.pointer (some ⟨gp,0,none⟩)] w fun e w'=>
   e= .returned (.tuple #[])/\Blk w' gb (fA 16 (thr bx s)) 169/\w.grownBy w' (some gb):=by
 go_enter func171,ntmps171;go_wp2_with (go_at_call 172;refine (ze gb gc s key _ hB hC).mono ?_;rintro e w' ⟨rfl,h1,h2⟩);go_end0;exact ⟨rfl,h1,h2⟩
theorem Bg (gb:Nat) (s:Nat->BitVec 8) (w:World) (hB:Blk w gb (fA 16 s) 169):
  Calls prog 173 #[.pointer (some ⟨gb,0,none⟩)] w fun e w'=>
   e= .returned (.tuple #[])/\Blk w' gb (fA 16 (trn s)) 169/\w.grownBy w' (some gb):=by
 go_enter func173,ntmps173;go_wp2_with (go_at_call 174;refine (yY gb s _ hB).mono ?_;rintro e w' ⟨rfl,h1,h2⟩);go_end0;exact ⟨rfl,h1,h2⟩
theorem Bf (gb gr r:Nat) (s:Nat->BitVec 8) (w:World) (hB:Blk w gb (fA 16 s) 169) (hR:w.cell? ⟨gr,0,none⟩=some (.int .i64 (r:Int))):
  Calls prog 175 #[.pointer (some ⟨gr,0,none⟩),.pointer (some ⟨gb,0,none⟩)] w fun e w'=>
   e= .returned (.tuple #[])/\Blk w' gb (fA 16 (if r<10 then mx mE s else s)) 169/\w.grownBy w' (some gb):=by
 by_cases h:r<10
 .have t:decide ((r:Int)<10)=true:=soA;rw [if_pos h];go_enter func175,ntmps175;go_wp2_with (go_at_call 176;refine (Iv gb mE s _ hB).mono ?_;rintro e w' ⟨rfl,h1,h2⟩);go_end0;exact ⟨rfl,h1,h2⟩
 .have t:decide ((r:Int)<10)=false:=soA;rw [if_neg h];go_enter func175,ntmps175;go_wp2_with fail;go_end0;exact ⟨rfl,hB,Vv _ _⟩
theorem Be (gb gc gp gr r:Nat) (s key:Nat->BitVec 8) (w:World) (hr:r<11) (hB:Blk w gb (fA 16 s) 169) (hC:Blk w gc (fA 688 (cph key)) 233) (hP:w.cell? ⟨gp,0,none⟩=some (.pointer (some ⟨gc,0,none⟩))) (hR:w.cell? ⟨gr,0,none⟩=some (.int .i64 (r:Int))):
  Calls prog 177 #[.pointer (some ⟨gp,0,none⟩),.pointer (some ⟨gb,0,none⟩),.pointer (some ⟨gr,0,none⟩)] w fun e w'=>
   e= .returned (.tuple #[])/\Blk w' gb (fA 16 (sx s (rk key r))) 169/\w.grownBy w' (some gb):=by
 go_enter func177,ntmps177;go_wp2_with (go_at_call 170;refine (Gl gb gc r s key _ hr hB hC).mono ?_;rintro e w' ⟨rfl,h1,h2⟩);go_end0;exact ⟨rfl,h1,h2⟩
def ins (key:Nat->BitVec 8) (r:Nat) (s:Nat->BitVec 8):Nat->Nat->BitVec 8
 |0=>s
 |1=>thr bx s
 |2=>trn (thr bx s)
 |3=>if r<10 then mx mE (trn (thr bx s)) else trn (thr bx s)
 |_=>rnd key r s
structure Dx (w:World) (H gc n R:Nat) (key t:Nat->BitVec 8) (wr:World):Prop where
 pos:H+3<=R
 cell:Blk wr R #[.int .i64 (n:Int)] 3
 ptr:Blk wr H #[.pointer (some ⟨gc,0,none⟩)] 201
 blk:Blk wr (H+1) (fA 16 t) 169
 res:∃z:Array Value,z.size=16/\Blk wr (H+2) z 169
 key:Blk wr gc (fA 688 (cph key)) 233
 bel:Below H w wr
theorem Dx.step {w:World} {H gc n R:Nat} {key t u:Nat->BitVec 8} {wr w':World} (h:Dx w H gc n R key t wr) (hgc:gc<H) (hB:Blk w' (H+1) (fA 16 u) 169) (hg:wr.grownBy w' (some (H+1))):Dx w H gc n R key u w':=by
 obtain ⟨hp,hc,hq,hb,⟨z,hz,hr⟩,hk,hl⟩:=h;have hs:H<=wr.heap.size:=(by have:=hc.lt;omega);exact ⟨hp,hc.grown hg soA,hq.grown hg skA,hB,⟨z,hz,hr.grown hg skA⟩,hk.grown hg soA,kT hl hs hg oA⟩
def FJ (w:World) (H gc:Nat) (key s:Nat->BitVec 8) (f:Nat) (p:Value) (wr:World):Prop:=
 ∃n R:Nat,f+n=11/\1<=n/\p= .pointer (some ⟨R,0,none⟩)/\Dx w H gc n R key (bg key s (n-1)) wr
def Mz (w:World) (H gc n R:Nat) (key t:Nat->BitVec 8) (f:Nat) (i:Value) (wr:World):Prop:=
 ∃k:Nat,f+k=4/\i= .int .i64 (k:Int)/\Dx w H gc n R key (ins key n t k) wr
theorem oE:(Tryz.prog.info? 1).map (·.size)=some 1:=by kernel_rfl
theorem Ar (gc:Nat) (s key:Nat->BitVec 8) (w:World) (hC:Blk w gc (fA 688 (cph key)) 233):
  Calls prog 141 #[.pointer (some ⟨gc,0,none⟩),.agg (fA 16 s)] w fun e w'=>
   e= .returned (.agg (fA 16 (enc key s)))/\Below w.heap.size w w':=by
 have hgc:=hC.lt;go_enter func141,ntmps141;go_wp2_with fail;refine (Gl (w.heap.size+1) gc 0 s key _ oA ((Blk.new2' _ _ _ _).alloc _) (((hC.alloc _).alloc _).alloc _)).mono ?_;rintro e w1 ⟨rfl,hB1,hg1⟩;obtain ⟨H,hH⟩:=Le w.heap.size;have hc1:=(((hC.alloc _).alloc _).alloc _).grown hg1 soA;have hp1:Blk w1 w.heap.size #[.pointer (some ⟨gc,0,none⟩)] 201:=(Blk.new3 w _ _ _ _).grown hg1 skA;have hz1:∃z:Array Value,z.size=16/\Blk w1 (w.heap.size+2) z 169:=⟨_,rfl,(Blk.new3'' w #[.int .u8 0,.int .u8 0,.int .u8 0,.int .u8 0,.int .u8 0,.int .u8 0,.int .u8 0,.int .u8 0,.int .u8 0,.int .u8 0,.int .u8 0,.int .u8 0,.int .u8 0,.int .u8 0,.int .u8 0,.int .u8 0] _ _ _).grown hg1 skA⟩;have hb1:Below w.heap.size w w1:=kT ((((AT w.heap.size w).alloc (Lt _) _).alloc skA _).alloc soA _) soA hg1 oA;have hs1:w.heap.size+3<=w1.heap.size:=(by have:=hg1.size;simp at this;omega);clear hg1;rw [<-hH] at hB1 hp1 hz1 hb1 hs1 hgc⊢;have HH:=Hd hH;clear hH;go_wp2_with fail;go_loopg [5] 10 (FJ w H gc key s)
 case atStart=>
  obtain ⟨z,hz,hr⟩:=hz1;exact ⟨1,_,oA,oA,rfl,hs1,Blk.new _ _ _,hp1.alloc _,hB1.alloc _,⟨z,hz,hr.alloc _⟩,hc1.alloc _,hb1.alloc oA _⟩
 case round=>
  clear hB1 hp1 hz1 hb1 hs1 hc1;obtain ⟨n,R,hf,hn1,rfl,hh⟩:=hrel;have hcell:=hh.cell.rule 0;by_cases hn:n<11
  .have tn:decide ((n:Int)<=10)=true:=soA;obtain ⟨t,ht⟩:=Le (bg key s (n-1));rw [<-ht] at hh;have HT:=Hd ht;have HF:=Hd hf;clear ht hf;go_wp2_with fail;clear hcell;obtain ⟨g0,rfl⟩:∃g:Nat,g=gk:=⟨_,rfl⟩;go_loopg [19] 4 (Mz w H gc n R key t)
   case atStart=>exact ⟨0,oA,rfl,hh⟩
   case round=>
    clear hh;obtain ⟨k,hf,rfl,hh⟩:=hrel;by_cases hk:k<4
    .have hcs:k=0\/k=1\/k=2\/k=3:=oA;have hptr:wr.cell? ⟨H,0,none⟩=some (.pointer (some ⟨gc,0,none⟩)):=hh.ptr.cell rfl;have hcell:wr.cell? ⟨R,0,none⟩=some (.int .i64 (n:Int)):=hh.cell.cell rfl;have HHc:=Hd hptr;have HHd:=Hd hcell;clear hptr hcell;rcases hcs with rfl|rfl|rfl|rfl
     .have hix:∀W:World,(Instr.index 243 (.agg #[Value.func (Fn.func 171) #[] #[.pointer (some ⟨H+1,0,none⟩),.pointer (some ⟨H,0,none⟩)],Value.func (Fn.func 173) #[] #[.pointer (some ⟨H+1,0,none⟩)],Value.func (Fn.func 175) #[] #[.pointer (some ⟨R,0,none⟩),.pointer (some ⟨H+1,0,none⟩)],Value.func (Fn.func 177) #[] #[.pointer (some ⟨H,0,none⟩),.pointer (some ⟨H+1,0,none⟩),.pointer (some ⟨R,0,none⟩)]]) (.int .i64 0)).run prog W= .ok (Value.func (Fn.func 171) #[] #[.pointer (some ⟨H+1,0,none⟩),.pointer (some ⟨H,0,none⟩)]) W:=fun W=>en (P:=prog) (kk:= .i64) underlying243 underlying1 rfl oE W _ 0 _ rfl oA;go_wp2_with (go_at_call 171;refine (Bh (H+1) gc H (ins key n t 0) key _ hh.blk hh.key HHc.out).mono ?_;rintro e w' ⟨rfl,h1,h2⟩);go_roundg (gk-1)
      case rel=>exact ⟨1,oA,rfl,hh.step hgc h1 h2⟩
      case measure=>omega
     .have hix:∀W:World,(Instr.index 243 (.agg #[Value.func (Fn.func 171) #[] #[.pointer (some ⟨H+1,0,none⟩),.pointer (some ⟨H,0,none⟩)],Value.func (Fn.func 173) #[] #[.pointer (some ⟨H+1,0,none⟩)],Value.func (Fn.func 175) #[] #[.pointer (some ⟨R,0,none⟩),.pointer (some ⟨H+1,0,none⟩)],Value.func (Fn.func 177) #[] #[.pointer (some ⟨H,0,none⟩),.pointer (some ⟨H+1,0,none⟩),.pointer (some ⟨R,0,none⟩)]]) (.int .i64 1)).run prog W= .ok (Value.func (Fn.func 173) #[] #[.pointer (some ⟨H+1,0,none⟩)]) W:=fun W=>en (P:=prog) (kk:= .i64) underlying243 underlying1 rfl oE W _ 1 _ rfl oA;go_wp2_with (go_at_call 173;refine (Bg (H+1) (ins key n t 1) _ hh.blk).mono ?_;rintro e w' ⟨rfl,h1,h2⟩);go_roundg (gk-1)
      case rel=>exact ⟨2,oA,rfl,hh.step hgc h1 h2⟩
      case measure=>omega
     .have hix:∀W:World,(Instr.index 243 (.agg #[Value.func (Fn.func 171) #[] #[.pointer (some ⟨H+1,0,none⟩),.pointer (some ⟨H,0,none⟩)],Value.func (Fn.func 173) #[] #[.pointer (some ⟨H+1,0,none⟩)],Value.func (Fn.func 175) #[] #[.pointer (some ⟨R,0,none⟩),.pointer (some ⟨H+1,0,none⟩)],Value.func (Fn.func 177) #[] #[.pointer (some ⟨H,0,none⟩),.pointer (some ⟨H+1,0,none⟩),.pointer (some ⟨R,0,none⟩)]]) (.int .i64 2)).run prog W= .ok (Value.func (Fn.func 175) #[] #[.pointer (some ⟨R,0,none⟩),.pointer (some ⟨H+1,0,none⟩)]) W:=fun W=>en (P:=prog) (kk:= .i64) underlying243 underlying1 rfl oE W _ 2 _ rfl oA;go_wp2_with (go_at_call 175;refine (Bf (H+1) R n (ins key n t 2) _ hh.blk HHd.out).mono ?_;rintro e w' ⟨rfl,h1,h2⟩);go_roundg (gk-1)
      case rel=>exact ⟨3,oA,rfl,hh.step hgc h1 h2⟩
      case measure=>omega
     .have hix:∀W:World,(Instr.index 243 (.agg #[Value.func (Fn.func 171) #[] #[.pointer (some ⟨H+1,0,none⟩),.pointer (some ⟨H,0,none⟩)],Value.func (Fn.func 173) #[] #[.pointer (some ⟨H+1,0,none⟩)],Value.func (Fn.func 175) #[] #[.pointer (some ⟨R,0,none⟩),.pointer (some ⟨H+1,0,none⟩)],Value.func (Fn.func 177) #[] #[.pointer (some ⟨H,0,none⟩),.pointer (some ⟨H+1,0,none⟩),.pointer (some ⟨R,0,none⟩)]]) (.int .i64 3)).run prog W= .ok (Value.func (Fn.func 177) #[] #[.pointer (some ⟨H,0,none⟩),.pointer (some ⟨H+1,0,none⟩),.pointer (some ⟨R,0,none⟩)]) W:=fun W=>en (P:=prog) (kk:= .i64) underlying243 underlying1 rfl oE W _ 3 _ rfl oA;go_wp2_with (go_at_call 177;refine (Be (H+1) gc H R n (ins key n t 3) key _ hn hh.blk hh.key HHc.out HHd.out).mono ?_;rintro e w' ⟨rfl,h1,h2⟩);go_roundg (gk-1)
      case rel=>exact ⟨4,oA,rfl,hh.step hgc h1 h2⟩
      case measure=>omega
    .obtain rfl:k=4:=oA;have hcell:wr.cell? ⟨R,0,none⟩=some (.int .i64 (n:Int)):=hh.cell.cell rfl;obtain ⟨hp,hc,hq,hb,⟨z,hz,hr⟩,hk,hl⟩:=hh;have hs:R<wr.heap.size:=hc.lt;have hpo:=Hd hp;clear hp;go_wp2_with fail;go_roundg (g0-1)
     case rel=>
      have hp:=hpo.out;have hf:=HF.out;refine ⟨n+1,wr.heap.size,oA,oA,rfl,oA,?_,(hq.alloc _),?_,⟨z,hz,hr.alloc _⟩,hk.alloc _,hl.alloc oA _⟩
      .rw [show (((n+1:Nat)):Int)=(n:Int)+1 by omega];exact Blk.new _ _ _
      .have e:ins key n t 4=bg key s (n+1-1):=by
        obtain ⟨m,rfl⟩:∃m,n=m+1:=⟨n-1,oA⟩;have:=HT.out;simp only [Xe] at this⊢;rw [bg,<-this];rfl
       rw [<-e];exact hb.alloc _
     case measure=>have hf:=HF.out;omega
  .obtain rfl:n=11:=oA;have tn:decide (((11:Nat):Int)<=10)=false:=skA;obtain ⟨hp,hc,hq,hb,⟨z,hz,hr⟩,hk,hl⟩:=hh;have hcell:wr.cell? ⟨R,0,none⟩=some (.int .i64 11):=hc.cell rfl;clear hp hk;go_wp2_with (first|refine am rfl 169 dU _ rfl rfl hb (aD _ _) ?_|refine aa rfl 169 dU (.tmp 4) _ (cells:=fA 16 (bg key s (11-1))) rfl rfl rfl hr (aD _ _) hz (fj _ _) ?_);refine cv rfl dU rfl (hr.setRow _) (aD _ _) rfl ⟨rfl,?_⟩;rw [HH.out] at hl⊢;exact ag hl oA _
end
section
open Go.RowKit
attribute [local go_sem] dn dp dL bN
theorem mV (old new:Array Value) (h:old.size=new.size):cD old 0 new=new:=by
 have e:List.drop new.size old.toList=[]:=List.drop_eq_nil_of_le (by simp [h]);simp [cD,e]
end
end Go.Proofs.YtioigihakjlopaaGreat

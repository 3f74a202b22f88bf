import Derived.Test.YtioigihakjlopaaGreatVF42
namespace Go.Proofs.YtioigihakjlopaaGreat
open Go.Proofs.Tryz
set_option linter.unusedVariables false
set_option linter.unusedSimpArgs false
set_option maxHeartbeats 16000000
set_option maxRecDepth 100000
section
open Go.RowKit
theorem Io (g n j:Nat) (h:j<4):(uG g n).getD j 0=(eJ g).getD (4+j) 0:=by
 rw [VX,VX,uG,Vm (by rw [ldA,aL];omega),WD]
theorem Ip (g n j:Nat):(uG g n).getD (4+j) 0=(eJ n).getD j 0:=by
 rw [VX,VX,uG,WU (by rw [ldA,aL];omega),ldA,aL];congr 2;omega
structure RnI (w:World) (H g n:Nat) (ga na:Option Addr) (gc nc t:Nat) (wr:World):Prop where
 res:Blk wr H (vA 12 fun _=> .int .u8 0) 175
 out:Blk wr (H+1) (vA 12 fun j=>if j<t then bv ((uG g n).getD j 0) else .int .u8 0) 175
 og:Own wr H 5 1 ga 8 gc ((eJ g).map bv)
 on:Own wr H 5 1 na 8 nc ((eJ n).map bv)
 below:Below H w wr
theorem RnI.step {w:World} {H g n:Nat} {ga na:Option Addr} {gc nc t:Nat} {wr:World} (h:RnI w H g n ga na gc nc t wr) (ht:t<12) (x:UInt8) (hx:x=(uG g n).getD t 0):RnI w H g n ga na gc nc (t+1) (wr.setCell ⟨H+1,t,none⟩ (.int .u8 (U8 x))):=
 ⟨h.res.other _ _ (by show H≠H+1;omega),(h.out.setV ht _).ofV fun j _=>by
  by_cases e:j=t
  .subst e;rw [if_pos rfl,if_pos oA,hx];rfl
  .rw [if_neg e];by_cases e2:j<t
   .rw [if_pos e2,if_pos oA]
   .rw [if_neg e2,if_neg oA],h.og.setCell_apart h.out dcA _ _,h.on.setCell_apart h.out dcA _ _,h.below.setCell (by show H<=H+1;omega) _⟩
def Rq1 (w:World) (H g n:Nat) (ga na:Option Addr) (gc nc:Nat) (f:Nat) (i:Value) (wr:World):Prop:=∃t:Nat,f+t=4/\i= .int .i64 (t:Int)/\RnI w H g n ga na gc nc t wr
def Rq2 (w:World) (H g n:Nat) (ga na:Option Addr) (gc nc:Nat) (f:Nat) (i:Value) (wr:World):Prop:=∃t:Nat,f+t=8/\i= .int .i64 (t:Int)/\RnI w H g n ga na gc nc (4+t) wr
theorem zo (B g n:Nat) (w:World) (hB:w.cell? ⟨B,0,none⟩=some (.int .u64 (g:Int))) (hg:g<18446744073709551616) (hn:n<18446744073709551616):
  Calls prog 157 #[.pointer (some ⟨B,0,none⟩),.int .u64 (n:Int)] w (Ms w g n):=by
 obtain ⟨H,hH⟩:=Le w.heap.size;have HH:=Hd hH;have hBl:=VV w _ hB;have hR0:=(Blk.new w (vA 12 fun _=> .int .u8 0) 175).alloc (.cells (vA 12 fun _=> .int .u8 0) 175);have hO0:=Blk.new (w.alloc (.cells (vA 12 fun _=> .int .u8 0) 175)) (vA 12 fun _=> .int .u8 0) 175;have hw0:=((AT w.heap.size w).alloc (Lt _) (.cells (vA 12 fun _=> .int .u8 0) 175)).alloc skA (.cells (vA 12 fun _=> .int .u8 0) 175);simp only [Wg] at hO0;have c0:((w.alloc (.cells (vA 12 fun _=> .int .u8 0) 175)).alloc (.cells (vA 12 fun _=> .int .u8 0) 175)).cell? ⟨B,0,none⟩=some (.int .u64 (g:Int)):=(by rw [hw0.cell hBl];exact hB);rw [<-hH] at hR0 hO0 hw0;have hz:=iQ AC;clear hH hB hBl;go_enter func157,ntmps157;go_upto_region 2 with fail;clear hz;rw [<-HH.out];refine af (fun W0=>Blk W0 H (vA 12 fun _=> .int .u8 0) 175/\Blk W0 (H+1) (vA 12 fun _=> .int .u8 0) 175/\W0.cell? ⟨B,0,none⟩=some (.int .u64 (g:Int))/\Below H w W0) ⟨hR0,hO0,c0,hw0⟩ ?_;clear hR0 hO0 c0 hw0;rintro w1 ⟨hR,hO,c0,hw⟩;have hsz:H+1<w1.heap.size:=hO.lt;go_wp2_with fail;refine (iu g hg _).mono ?_;rintro e w2 ⟨ga,gc,rfl,hg2,hb2⟩;have hs2:=hb2.size;go_wp2_with fail;refine (iu n hn _).mono ?_;rintro e w3 ⟨na,nc,rfl,hn3,hb3⟩;have hI:RnI w H g n ga na gc nc 0 w3:=⟨(hR.old hb2).old hb3,((hO.old hb2).old hb3).ofV fun j _=>by rw [if_neg oA],(hg2.lower oA).old hb3,hn3.lower oA,(hw.trans (hb2.mono oA)).trans (hb3.mono oA)⟩;clear hR hO c0 hw hb2 hb3 hg2 hn3 hs2;go_wp2_with fail;go_loopg [8] 4 (Rq1 w H g n ga na gc nc)
 case atStart=>exact ⟨0,oA,rfl,hI⟩
 case round=>
  clear hI;obtain ⟨t,hf,rfl,hI⟩:=hrel;have HF:=Hd hf;clear hf;by_cases ht:t<4
  .have tt:decide ((t:Int)<4)=true:=VO oA;have htI:(t:Int)<4:=oA;obtain ⟨x,hx⟩:=Le ((eJ g).getD (4+t) 0);obtain ⟨b1,o1,rfl,c1⟩:=ah.cellAt hI.og.row (4+t) (by rw [aL];omega);rw [<-hx] at c1;have c2:=hI.out.atV (show t<12 by omega) rfl;have f2:=hI.out.free;have HX:=Hd hx;clear hx;go_wp2_with fail;clear c1 c2 f2;go_roundg (gk-1)
   case rel=>exact ⟨t+1,by have:=HF.out;omega,gnA,hI.step oA x (by rw [HX.out,Io g n t ht])⟩
   case measure=>have:=HF.out;omega
  .obtain rfl:t=4:=(by have:=HF.out;omega);have tt:decide (((4:Nat):Int)<4)=false:=skA;go_wp2_with fail;go_loopg [9] 8 (Rq2 w H g n ga na gc nc)
   case atStart=>exact ⟨0,oA,rfl,hI⟩
   case round=>
    clear hI;obtain ⟨t,hf,rfl,hI⟩:=hrel;have HF:=Hd hf;clear hf;by_cases ht:t<8
    .have tt:decide ((t:Int)<8)=true:=VO oA;have htI:(t:Int)<8:=oA;obtain ⟨x,hx⟩:=Le ((eJ n).getD t 0);obtain ⟨b1,o1,rfl,c1⟩:=ah.cellAt hI.on.row t (by rw [aL];omega);rw [<-hx] at c1;have c2:=hI.out.atV (show 4+t<12 by omega) rfl;have f2:=hI.out.free;have HX:=Hd hx;clear hx;go_wp2_with fail;clear c1 c2 f2;go_roundg (gk-1)
     case rel=>exact ⟨t+1,by have:=HF.out;omega,gnA,hI.step oA x (by rw [HX.out,Ip g n t])⟩
     case measure=>have:=HF.out;omega
    .obtain rfl:t=8:=(by have:=HF.out;omega);have tt:decide (((8:Nat):Int)<8)=false:=skA;have hO2:=hI.out.ofV (g:=fun j=>bv ((uG g n).getD j 0)) fun j hj=>if_pos hj;have hR2:=hI.res;have hw2:=hI.below;rw [nonA] at hO2;clear hI;go_wp2_with (first|refine am rfl 175 Ap _ rfl rfl hO2 (aD _ _) ?_|refine aa rfl 175 Ap (.tmp 4) _ (cells:=fA 12 (pO g n)) rfl rfl rfl hR2 (aD _ _) (ax _ _) (fj _ _) ?_);exact cv rfl Ap rfl (hR2.setRow _) (aD _ _) rfl ⟨rfl,HH.out▸ag hw2 (Lt _) _⟩
def lD (m:List UInt8) (g k:Nat) (tv:Value) (i:Nat):Value:=if i=0 then .int .u64 (g:Int) else if i<17 then (if i-1<k then bv (Js m g (i-1)) else .int .u8 0) else tv
structure vu (w:World) (B:Nat) (m:List UInt8) (g:Nat) (ta:Option Addr) (tc:Nat):Prop where
 blk:Blk w B (vA 18 (lD m g 16 (.slice ta 32 tc))) 222
 tag:ah w ta (tkL m g)
section
variable {w w':World} {B:Nat} {m:List UInt8} {g:Nat} {ta:Option Addr} {tc:Nat}
theorem vu.old (h:vu w B m g ta tc) (hb:Below w.heap.size w w'):vu w' B m g ta tc:=⟨h.blk.old hb,h.tag.below hb⟩
theorem vu.drew (h:vu w B m g ta tc):vu w.drew B m g ta tc:=⟨h.blk,h.tag⟩
theorem vu.game (h:vu w B m g ta tc):w.cell? ⟨B,0,none⟩=some (.int .u64 (g:Int)):=h.blk.atV oA (by simp [lD])
theorem vu.tagv (h:vu w B m g ta tc):w.cell? ⟨B,17,none⟩=some (.slice ta 32 tc):=h.blk.atV oA (by simp [lD])
theorem vu.key (h:vu w B m g ta tc):∀j (hj:j<(fL 16 (ckB m g)).length),w.cell? ⟨B,1+j,none⟩=some (fL 16 (ckB m g))[j]:=by
 intro j hj;have hj':j<16:=(by simpa [fL] using hj);rw [h.blk.atV (show 1+j<18 by omega) rfl,lD,if_neg oA,if_pos oA,if_pos oA];simp [fL,fv,bv,ckB];rfl
end
theorem KH (m:List UInt8) (g:Nat):(#[.int .u64 (g:Int),.int .u8 0,.int .u8 0,.int .u8 0,.int .u8 0,.int .u8 0,.int .u8 0,.int .u8 0,.int .u8 0,.int .u8 0,.int .u8 0,.int .u8 0,.int .u8 0,.int .u8 0,.int .u8 0,.int .u8 0,.int .u8 0,.slice none 0 0]:Array Value)=vA 18 (lD m g 0 (.slice none 0 0)):=rfl
structure RbI (w:World) (m:List UInt8) (g C T X k:Nat) (wr:World):Prop where
 c:Blk wr C (vA 32 fun i=>bv (Js m g i)) 170
 t:Blk wr T (dgA (uR m (qD Gh 3 g))) 170
 x:Blk wr X (vA 18 (lD m g k (.slice none 0 0))) 222
 xb:w.heap.size<=X
 below:Below w.heap.size w wr
theorem RbI.step {w:World} {m:List UInt8} {g C T X k:Nat} {wr:World} (h:RbI w m g C T X k wr) (hk:k<16):RbI w m g C T X (k+1) (wr.drew.setCell ⟨X,1+k,none⟩ (.int .u8 (U8 (Js m g k)))):=
 ⟨h.c.drew.other _ _ (Blk.ne h.c h.x dcA),h.t.drew.other _ _ (Blk.ne h.t h.x dcA),(h.x.drew.setV (show 1+k<18 by omega) _).ofV fun i hi=>by
  by_cases e:i=1+k
  .subst e;rw [if_pos rfl,lD,if_neg oA,if_pos oA,if_pos oA,show 1+k-1=k by omega];rfl
  .rw [if_neg e];unfold lD;by_cases e0:i=0
   .rw [if_pos e0,if_pos e0]
   .rw [if_neg e0,if_neg e0];by_cases e1:i<17
    .rw [if_pos e1,if_pos e1];by_cases e2:i-1<k
     .rw [if_pos e2,if_pos oA]
     .rw [if_neg e2,if_neg oA]
    .rw [if_neg e1,if_neg e1],h.xb,h.below.drew.setCell h.xb _⟩
def Rb1 (w:World) (m:List UInt8) (g C T X:Nat) (f:Nat) (i:Value) (wr:World):Prop:=∃k:Nat,f+k=16/\i= .int .i64 (k:Int)/\RbI w m g C T X k wr
def RnwP (w:World) (m:List UInt8) (g:Nat) (e:Ending) (w':World):Prop:=∃(B:Nat) (ta:Option Addr) (tc:Nat),e= .returned (.pointer (some ⟨B,0,none⟩))/\w.heap.size<=B/\vu w' B m g ta tc/\Below w.heap.size w w'
theorem El (ma:Option Addr) (mn mc:Nat) (m:List UInt8) (g:Nat) (w:World) (hm:ah w ma m) (hml:m.length=mn) (hmm:mn<140737488352000) (hg:g<18446744073709551616):
  Calls prog 132 #[.slice ma mn mc,.int .u64 (g:Int)] w (RnwP w m g):=by
 have HL:=Hd hml;clear hml;go_enter func132,ntmps132;go_wp2_with fail;refine (xO m ma mn mc (dy jG) g _ hm HL.out hmm dcA hg).mono ?_;unfold vp;rintro e w2 ⟨rfl,hb2⟩;have hm2:=hm.below hb2;obtain ⟨X,hX⟩:=Le (mcA m (qD (jW (dy jG)) (dy jG).size g));have hXs:X.size=32:=(by rw [hX];exact ax _ _);have hX1:X.toList.all (·.oneCell')=true:=(by rw [hX];exact du fun _ _=>rfl);rw [<-hX];have HX:=Hd hX;clear hX;go_upto_region 2 with (refine aa rfl 170 fG (.tmp 5) _ (cells:=X) rfl rfl rfl (Blk.new _ _ _) hXs rfl hX1 ?_);obtain ⟨C,hC⟩:=Le w2.heap.size;have hC0:=Blk.new w2 (vA 32 fun _=> .int .u8 0) 170;have hbb:=ag ((AT w2.heap.size w2).alloc (Lt _) (.cells (vA 32 fun _=> .int .u8 0) 170)) (VR hC.symm) X;rw [<-hC] at hC0⊢;refine af (fun W0=>Blk W0 C X 170/\ah W0 ma m/\Below w.heap.size w W0) ⟨hC0.setRow _,hm2.below hbb,ae hb2 hbb⟩ ?_;clear hm hm2 hC0 hbb hC hb2;rintro w3 ⟨hC,hm,hw⟩;go_wp2_with fail;refine (xO m ma mn mc (dy Gh) g _ hm HL.out hmm dcA hg).mono ?_;unfold vp;rintro e w4 ⟨rfl,hb4⟩;have hC4:=hC.old hb4;have hw4:=ae hw hb4;obtain ⟨Y,hY⟩:=Le (mcA m (qD (jW (dy Gh)) (dy Gh).size g));have hYs:Y.size=32:=(by rw [hY];exact ax _ _);have hY1:Y.toList.all (·.oneCell')=true:=(by rw [hY];exact du fun _ _=>rfl);rw [<-hY];have HY:=Hd hY;clear hY hC hm hw hb4;go_upto_region 3 with (refine aa rfl 170 fG (.tmp 6) _ (cells:=Y) rfl rfl rfl (Blk.new _ _ _) hYs rfl hY1 ?_);obtain ⟨T,hT⟩:=Le w4.heap.size;have hT0:=Blk.new w4 (vA 32 fun _=> .int .u8 0) 170;have hbb:=ag ((AT w4.heap.size w4).alloc (Lt _) (.cells (vA 32 fun _=> .int .u8 0) 170)) (VR hT.symm) Y;rw [<-hT] at hT0⊢;refine af (fun W0=>Blk W0 C X 170/\Blk W0 T Y 170/\Below w.heap.size w W0) ⟨hC4.old hbb,hT0.setRow _,ae hw4 hbb⟩ ?_;clear hC4 hT0 hbb hT hw4;rintro w5 ⟨hC,hT,hw⟩;go_wp2_with fail;obtain ⟨B,hB⟩:=Le w5.heap.size;have hB0:=Blk.new w5 (vA 18 (lD m g 0 (.slice none 0 0))) 222;have hbb:=(AT w5.heap.size w5).alloc (Lt _) (.cells (vA 18 (lD m g 0 (.slice none 0 0))) 222);rw [<-hB] at hB0⊢;refine af (fun W0=>RbI w m g C T B 0 W0) ?_ ?_
 .rw [KH m g];exact ⟨by
   have:=hC.old hbb;rw [HX.out] at this;exact this,by
   have:=hT.old hbb;rw [HY.out] at this;exact this,hB0,hB▸hw.size,ae hw hbb⟩
 clear hC hT hw hB hB0 hbb hX1 hXs hY1 hYs;intro w6 hst;go_loopg [8] 16 (Rb1 w m g C T B)
 case atStart=>exact ⟨0,oA,rfl,hst⟩
 case round=>
  clear hst;obtain ⟨k,hf,rfl,hI⟩:=hrel;have HF:=Hd hf;clear hf;by_cases hk:k<16
  .have hkI:(k:Int)<16:=oA;have hkJ:(k:Int)<32:=oA;have tt:decide ((k:Int)<16)=true:=VO hkI;have c1:=hI.c.drew.atV (show k<32 by omega) rfl;have f1:=hI.x.drew.free;have C1:Hid (∀W,Old wr.drew W->W.cell? ⟨C,k,none⟩=some (.int .u8 (U8 (Js m g k)))):=Hd fun W hW=>(Blk.old (w:=wr.drew) hI.c hW).atV (show k<32 by omega) rfl;have c2:=hI.x.drew.atV (show 1+k<18 by omega) rfl;go_upto_region 7 with fail;refine aj true Old Old.refl Old.trans (.step 0 (.step 1 (.step 2 (.step 3 (.step 4 (.step 5 (.step 6 (.step 7 (.step 8 .done))))))))) krA krA cdA ?_
   repeat (first|refine tsA ?_|refine tqA ?_)
   refine ci (v:= .int .u8 (U8 (Js m g k))) rfl rfl rfA (fun W hW=>by have:=C1.out W hW;go_simp) ?_;simp only [Act.put,sTA,List.set]
   repeat (first|refine tsA ?_|refine tqA ?_)
   refine az rfl rfl rfA (fun K hK=> ?_);go_wp2_with fail;refine ap ?_;clear c1 f1 C1 c2;go_wp2_with fail;go_roundg (gk-1)
   case rel=>exact ⟨k+1,by have:=HF.out;omega,gnA,hI.step hk⟩
   case measure=>have:=HF.out;omega
  .obtain rfl:k=16:=(by have:=HF.out;omega);have tt:decide (((16:Nat):Int)<16)=false:=skA;have hT:=hI.t;have hX:=hI.x;have hw:=hI.below;have hxb:=hI.xb;clear hI;have q2:=rR T;have f1:=hX.drew.free;have hc17:wr.drew.cell? ⟨B,17,none⟩=some (.slice none 0 0):=hX.drew.atV oA (by simp [lD]);have C17:Hid (∀W,Old wr.drew W->W.cell? ⟨B,17,none⟩=some (.slice none 0 0)):=Hd fun W hW=>(Blk.old (w:=wr.drew) hX hW).atV oA (by simp [lD]);go_upto_region 8 with fail;refine aj true Old Old.refl Old.trans (.step 0 (.step 1 (.step 2 (.step 3 (.step 4 (.step 5 (.step 6 (.step 7 (.step 8 (.step 9 .done)))))))))) krA krA cdA ?_
   repeat (first|refine tsA ?_|refine tqA ?_)
   refine ci (v:= .slice none 0 0) rfl rfl rfA (fun W hW=>by have:=C17.out W hW;go_simp) ?_;simp only [Act.put,sTA,List.set]
   repeat (first|refine tsA ?_|refine tqA ?_)
   refine an rfl rfl rfA (fun K hK=> ?_);refine eh (.tmp 34) (.tmp 35) 22 rfl dK rfl (Own.nil wr.drew wr.drew.heap.size 5 1) rfl (rE hT.drew) (by rw [lmA,cU]) (cO _) mxA oA (Lt _) ?_;intro a4 c4 w4 own4 hg4;have hb4:Below wr.drew.heap.size wr.drew w4:=(Own.nil wr.drew wr.drew.heap.size 5 1).grown (AT _ _) (Lt _) hg4 (Lt _);refine hK _ _ hb4 ?_;clear hK K;have hX4:=Blk.old (w:=wr.drew) hX hb4;have f4:=hX4.free;have hc4:w4.cell? ⟨B,17,none⟩=some (.slice none 0 0):=hX4.atV oA (by simp [lD])
   repeat (first|refine tsA ?_|refine tqA ?_)
   refine az rfl rfl rfA (fun K hK=> ?_);go_wp2_with fail;refine ap ?_;clear f4 hc4 f1 hc17;go_wp2_with fail;go_ret;have hw4:Below w.heap.size w w4:=ae hw.drew hb4;refine ⟨B,a4,c4,rfl,hxb,⟨(hX4.setV (show 17<18 by omega) _).ofV fun i hi=> ?_,?_⟩,hw4.setCell hxb _⟩
   .by_cases e:i=17
    .subst e;rw [if_pos rfl,lD,if_neg oA,if_neg oA]
    .rw [if_neg e];unfold lD;by_cases e0:i=0
     .rw [if_pos e0,if_pos e0]
     .rw [if_neg e0,if_neg e0,if_pos (show i<17 by omega),if_pos (show i<17 by omega)]
   .have h:=(own4.setCell_apart hX4 dcA 17 (.slice a4 32 c4)).row;simp only [Wf] at h;exact h
def tgL (m:List UInt8) (g n:Nat) (c:List UInt8):List UInt8:=c++dgl (jH m g n c)
theorem zf (m:List UInt8) (g n:Nat) (c:List UInt8):(tgL m g n c).length=c.length+32:=by simp [tgL,cU]
def TagP (w:World) (m:List UInt8) (g n:Nat) (c:List UInt8) (e:Ending) (w':World):Prop:=
 ∃(a:Option Addr) (k:Nat),e= .returned (.slice a (c.length+32) k)/\Own w' w.heap.size 5 1 a (c.length+32) k ((tgL m g n c).map bv)/\Below w.heap.size w w'
theorem zg (B:Nat) (m:List UInt8) (g n:Nat) (ta:Option Addr) (tc:Nat) (ca:Option Addr) (cn cc:Nat) (c:List UInt8) (w:World) (hB:vu w B m g ta tc) (hc:ah w ca c) (hcl:c.length=cn) (hcm:cn<=100000) (hg:g<18446744073709551616) (hn:n<18446744073709551616):
  Calls prog 158 #[.pointer (some ⟨B,0,none⟩),.int .u64 (n:Int),.slice ca cn cc] w (TagP w m g n c):=by
 have HC:=Hd hcl;have hB0:=Hd hB;have hc0:=Hd hc;clear hcl hc;have c0:=hB.game;clear hB;go_enter func158,ntmps158;go_wp2_with fail;clear c0;refine (iu g hg _).mono ?_;rintro e w1 ⟨a1,c1,rfl,ho1,hb1⟩;go_wp2_with fail;refine (iu n hn _).mono ?_;rintro e w2 ⟨a2,c2,rfl,ho2,hb2⟩;have ho12:=ho1.old hb2;have hw2:=ae hb1 hb2;have hs2:=hw2.size;have hr2:=ho2.row;clear ho1 hb1 hb2 ho2;go_upto_region 3 with (at_builtin;refine al rfl (.tmp 15) (.tmp 17) 22 rfl dK rfl ho12 rfl hr2 (by rw [lmA,aL]) (cO _) mxA oA hs2 ?_);intro a3 c3 w3 ho3 hg3;have hw3:=ho12.grown hw2 (Lt _) hg3 hs2;have hs3:=hw3.size;clear hg3 ho12 hw2 hs2 hr2;have hc3:=hc0.out.below hw3;go_upto_region 4 with (at_builtin;refine al rfl (.tmp 19) (.tmp 20) 22 rfl dK rfl ho3 rfl hc3 (by rw [lmA,HC.out];omega) (cO _) mxA oA hs3 ?_);intro a4 c4 w4 ho4 hg4;have hw4:=ho3.grown hw3 (Lt _) hg4 hs3;have hB4:=hB0.out.old hw4;have hr4:ah w4 a4 (eJ g++eJ n++c):=by
  have:=ho4.row;unfold ah;rw [VG,VG];exact this
 have hl4:(eJ g++eJ n++c).length=8+8+cn:=(by rw [laA,laA,aL,aL,HC.out]);clear hg4 ho3 hw3 hs3 hc3 ho4;obtain ⟨bb,hbb⟩:=Le (eJ g++eJ n++c);rw [<-hbb] at hr4 hl4;have HBB:=Hd hbb;have HL4:=Hd hl4;clear hbb hl4;have c17:=hB4.tagv;go_wp2_with fail;clear c17;refine (xN (tkL m g) bb ta 32 tc a4 _ c4 _ hB4.tag (mR _ _) oA hr4 HL4.out oA).mono ?_;unfold Mn;rintro e w5 ⟨rfl,hb5⟩;have hw5:=ae hw4 hb5;clear hw4 hb5 hB4 hr4;obtain ⟨X,hX⟩:=Le (mcA (tkL m g) bb);have hXs:X.size=32:=(by rw [hX];exact ax _ _);have hX1:X.toList.all (·.oneCell')=true:=(by rw [hX];exact du fun _ _=>rfl);have hXm:X=dgA (jH m g n c):=(by rw [hX,HBB.out];rfl);rw [<-hX];have HX:=Hd hXm;clear hX hXm;go_upto_region 5 with (refine aa rfl 170 fG (.tmp 8) _ (cells:=X) rfl rfl rfl (Blk.new _ _ _) hXs rfl hX1 ?_);obtain ⟨C,hC⟩:=Le w5.heap.size;have hC0:=Blk.new w5 (vA 32 fun _=> .int .u8 0) 170;have hbb:=ag ((AT w5.heap.size w5).alloc (Lt _) (.cells (vA 32 fun _=> .int .u8 0) 170)) (VR hC.symm) X;rw [<-hC] at hC0⊢;refine af (fun W0=>Blk W0 C (dgA (jH m g n c)) 170/\Below w.heap.size w W0) ⟨by rw [<-HX.out];exact hC0.setRow _,ae hw5 hbb⟩ ?_;clear hC0 hbb hC hw5;rintro w6 ⟨hC,hw6⟩;have hs6:=hw6.size;have hc6:=hc0.out.below hw6;go_upto_region 7 with (at_builtin;refine al rfl (.tmp 28) (.tmp 29) 22 rfl dK rfl (Own.nil w6 w6.heap.size 5 1) rfl hc6 (by rw [lmA,HC.out];omega) (cO _) mxA oA (Lt _) ?_);intro a7 c7 w7 ho7 hg7;have hb7:Below w6.heap.size w6 w7:=(Own.nil w6 w6.heap.size 5 1).grown (AT _ _) (Lt _) hg7 (Lt _);have hC7:=hC.old hb7;have hw7:=ae hw6 hb7;have hs7:=hw7.size;have ho7':=ho7.lower hs6;clear hg7 hC hw6 hs6 hc6 hb7 ho7;have q2:=rR C;go_wp2_with (at_builtin;refine al rfl (.tmp 31) (.tmp 32) 22 rfl dK rfl ho7' rfl (rE hC7) (by rw [lmA,cU]) (cO _) mxA oA hs7 ?_);intro a8 c8 w8 ho8 hg8;have hw8:=ho7'.grown hw7 (Lt _) hg8 hs7;clear hg8 hC7 hw7 hs7 ho7' q2;go_wp2_with fail;go_ret;refine ⟨a8,c8,?_,?_,hw8⟩
 .rw [HC.out];rfl
 .rw [HC.out,tgL,VG];simpa using ho8
theorem ropL (m:List UInt8) (g n:Nat) (b:List UInt8) (k:Nat) (hk:b.length=k+32) (hk2:k<=65504):fl m g n b=if tgL m g n (b.take k)=b then (stm (ckB m g) (pO g n) (b.take k),0) else ([],60):=by
 unfold fl;rw [show b.length-32=k by omega];by_cases h:b.drop k=dgl (jH m g n (b.take k))
 .rw [if_pos ⟨oA,oA,h⟩,if_pos];rw [tgL,<-h,WW]
 .rw [if_neg (fun h2=>h h2.2.2),if_neg];intro h2;apply h;have h3:=WG (List.drop k) h2;rw [tgL,Xd (by rw [ltA];omega),List.drop_eq_nil_of_le (by rw [ltA];omega),Wf] at h3;exact h3.symm
theorem rg (B:Nat) (m:List UInt8) (g n:Nat) (ta:Option Addr) (tc:Nat) (ba:Option Addr) (bn bc:Nat) (b:List UInt8) (w:World) (hB:vu w B m g ta tc) (hb:ah w ba b) (hbl:b.length=bn) (hbm:bn<=bc) (hg:g<18446744073709551616) (hn:n<18446744073709551616) (hbM:bn<=140737488351232):
  Calls prog 144 #[.pointer (some ⟨B,0,none⟩),.int .u64 (n:Int),.slice ba bn bc] w (OpQ w m g n b):=by
 have HL:=Hd hbl;have hB0:=Hd hB;have hb0:=Hd hb;clear hbl;by_cases hr:32<=bn/\bn<=65536
 .obtain ⟨hr1,hr2⟩:=hr;obtain ⟨k,hk⟩:∃k,bn=k+32:=⟨bn-32,oA⟩;have hk2:k<=65504:=oA;have hop:=ropL m g n b k (by rw [HL.out];exact hk) hk2;have HOP:=Hd hop;have e1:(bn:Int)-32=(k:Int):=oA;have hkc:k<=bc:=oA;have t1:decide ((bn:Int)<32)=false:=Vd oA;have t2:decide ((65536:Int)<(bn:Int))=false:=Vd oA;have hI:(bn:Int)<=65536:=oA;have hbk:ah w ba (b.take k):=by
   have:=aw.take k hb;unfold ah;rw [WE];exact this
  have hbkl:(b.take k).length=k:=(by rw [ltA,HL.out];omega);have HK:=Hd hk;have HKL:=Hd hbkl;have hbk0:=Hd hbk;clear hop hk hbkl hb hbk;go_enter func144,ntmps144;go_wp2_with fail;refine (zg B m g n ta tc ba k bc (b.take k) _ hB hbk0.out HKL.out oA hg hn).mono ?_;rintro e w2 ⟨a2,c2,rfl,ho2,hb2⟩;rw [HKL.out] at ho2⊢;have hr2':=ho2.row;clear hB ho2;go_wp2_with fail;refine (zr (tgL m g n (b.take k)) b a2 ba _ c2 bn bc _ hr2' (by rw [zf,HKL.out]) oA (hb0.out.below hb2) HL.out oA).mono ?_;unfold EqP;rintro e w3 ⟨rfl,hb3⟩;have hw3:=ae hb2 hb3;clear hb2 hb3 hr2' e1;by_cases hq:tgL m g n (b.take k)=b
  .have hop:=HOP.out;rw [if_pos hq] at hop;have HO:=Hd hop;rw [VO hq];clear hop hq;go_upto_region 6 with fail;have hBd:=(hB0.out.old hw3).drew;refine aA (0::1::2::3::4::5::7::6::8::9::10::11::12::13::[]) krA krA cdA ?_
   repeat (first|refine lsA ?_|refine lqA ?_)
   refine cS (v:= .agg (fA 16 (ckB m g))) rfl rfl rfA (fun W hW=>aI 169 dU _ rfl rfl rfl (vu.old hBd hW).key (dd _ _)) ?_;simp only [Act.put,sTA,List.set]
   repeat (first|refine lsA ?_|refine lqA ?_)
   refine bw rfl rfl rfA (fun K hK=> ?_);go_wp2_with fail;refine (zo B g n _ hBd.game hg hn).mono ?_;unfold Ms;rintro e w4 ⟨rfl,hb4⟩;go_wp2_with fail;refine hK _ _ hb4 ?_;clear hK K;have hw4:Below w3.heap.size w3 w4:=⟨hb4.os,hb4.tape,hb4.output,hb4.size,hb4.block⟩;have hw04:=ae hw3 hw4;refine bw rfl rfl rfA (fun K hK=> ?_);go_wp2_with fail;refine (vR (ckB m g) (pO g n) ba k bc (b.take k) _ (hbk0.out.below hw04) HKL.out oA).mono ?_;rintro e w5 ⟨a5,c5,rfl,ho5,hb5⟩;go_wp2_with fail;refine hK _ _ hb5 ?_;clear hK K
   repeat (first|refine lsA ?_|refine lqA ?_)
   refine bO ?_;have hw05:=ae hw04 hb5;go_wp2_with fail;go_ret2;exact ⟨a5,k,c5,_,0,rfl,HO.out,by rw [eX,HKL.out],ho5.row,hw05,ho5.le⟩
  .have hop:=HOP.out;rw [if_neg hq] at hop;have HO:=Hd hop;rw [Vd hq];clear hop hq;go_wp2_with fail;go_ret2;exact ⟨none,0,0,[],60,rfl,HO.out,rfl,aw.nil _ _,hw3,Lt _⟩
 .have hop:fl m g n b=([],60):=by
   unfold fl;rw [HL.out,if_neg (fun h=>hr ⟨h.1,h.2.1⟩)]
  have HOP:=Hd hop;clear hop;by_cases hs:bn<32
  .have t1:decide ((bn:Int)<32)=true:=VO oA;go_enter func144,ntmps144;go_wp2_with fail;go_ret2;exact ⟨none,0,0,[],60,rfl,HOP.out,rfl,aw.nil _ _,AT _ _,Lt _⟩
  .have t1:decide ((bn:Int)<32)=false:=Vd oA;have t2:decide ((65536:Int)<(bn:Int))=true:=VO oA;go_enter func144,ntmps144;go_wp2_with fail;go_ret2;exact ⟨none,0,0,[],60,rfl,HOP.out,rfl,aw.nil _ _,AT _ _,Lt _⟩
end
section
open Go.RowKit
def DE (w:World) (m:List UInt8) (l:List ao) (load:List UInt8) (e:Ending) (w':World):Prop:=
 ∃h,e= .returned (.tuple #[dR (br m l load).1 h,.bool (br m l load).2])/\aX w' w.heap.size (br m l load).1 h/\Below w.heap.size w w'
def RunR (w:World) (m:List UInt8) (gg N X:Nat) (b:List UInt8) (v11 v12:Value) (W:World):Prop:=
 ∃(a:Option Addr) (k c:Nat) (l:List UInt8) (er:Int),v11= .slice a k c/\v12= .int .i64 er/\fl m gg N b=(l,er)/\l.length=k/\ah W a l/\Below w.heap.size w W/\k<=c/\Blk W X bR 40
theorem vP (w:World) (ma:Option Addr) (mn mc:Nat) (m:List UInt8) (a:Option Addr) (n c:Nat) (ds:List (ao×aW)) (la:Option Addr) (ln lc:Nat) (load:List UInt8)
  (hma:ah w ma m) (hml:m.length=mn) (hmz:mn<=1000000) (hr:aw w a (dv ds)) (hn:ds.length=n) (hz:n<=1000000) (hl:ah w la load) (hln:load.length=ln) (hlc:ln<=lc) (hlm:ln<=65536):
  Calls prog 118 #[.slice ma mn mc,.slice a n c,.slice la ln lc] w (DE w m (aB ds) load):=by
 obtain ⟨S,hS⟩:=Le (DE w m (aB ds) load);rw [<-hS];have HS:=Hd hS;clear hS;have hgz:aP (aB ds)<=1000000:=At (pY _) (by rw [aB,lmA];omega);have hoz:∀g,(ofG (aB ds) g).length<=1000000:=fun g=>At (Gd _ _) (by rw [aB,lmA];omega);have HOZ:=Hd hoz;clear hoz;go_enter func118,ntmps118;go_upto_region 2 with (fail);obtain ⟨X,hX⟩:=Le w.heap.size;rw [<-hX];refine af (fun W=>Blk W X bR 40/\FAt W w.heap.size (X+1) la lc load ⟨load,false⟩/\Below w.heap.size w W) ⟨by subst hX;exact Blk.new2 w _ _ _,?_,by subst hX;exact cL⟩ ?_
 .refine ⟨0,⟨?_,(hl.alloc _).alloc _,hl.inB rfl,oA,Vo _,oA,oA⟩,skA⟩;rw [hln];subst hX;exact Blk.new2' w _ _ _
 rintro W1 ⟨bX,hcur,hbw⟩;have hXw:w.heap.size<=X:=VR hX.symm;clear hX;obtain ⟨C,hC⟩:=Le (X+1);rw [<-hC] at hcur⊢;have hXC:X≠C:=oA;have hCw:w.heap.size<=C:=oA;clear hC;have cb:=iJ W1 w.heap.size C _ lc _ _ hcur hbw.size;go_wp2_with fail;refine cb.mono ?_;clear cb;rintro e W2 ⟨rfl,hc2,ht2⟩;have bX2:Blk W2 X bR 40:=(ht2.block X bX.lt hXC).trans bX;have hbw2:Below w.heap.size w W2:=hbw.trans (ht2.below (fun x hx=>by omega) hbw.size);have HU:=Hd (show br m (aB ds) load=if (be ⟨load,false⟩).2.bad=true\/(be ⟨load,false⟩).1<0\/(aP (aB ds):Int)<(be ⟨load,false⟩).1 then (jY,false)
  else if (fl m (be ⟨load,false⟩).1.toNat (ofG (aB ds) (be ⟨load,false⟩).1).length (be ⟨load,false⟩).2.b).2≠0 then (jY,false)
  else ((fY (fl m (be ⟨load,false⟩).1.toNat (ofG (aB ds) (be ⟨load,false⟩).1).length (be ⟨load,false⟩).2.b).1).1,decide ((fY (fl m (be ⟨load,false⟩).1.toNat (ofG (aB ds) (be ⟨load,false⟩).1).length (be ⟨load,false⟩).2.b).1).2=0/\(fY (fl m (be ⟨load,false⟩).1.toNat (ofG (aB ds) (be ⟨load,false⟩).1).length (be ⟨load,false⟩).2.b).1).1.game=(be ⟨load,false⟩).1)&&bp (aB ds) (fY (fl m (be ⟨load,false⟩).1.toNat (ofG (aB ds) (be ⟨load,false⟩).1).length (be ⟨load,false⟩).2.b).1).1) from rfl)
 have HN8:=Hd (show (be ⟨load,false⟩).2.bad=false->8<=ln/\(be ⟨load,false⟩).2.b=load.drop 8 from fun h=>by
  unfold be dM at h⊢;dsimp only at h⊢;by_cases h8:(8:Int)<0\/(load.length:Int)<8
  .rw [if_pos h8] at h;cases h
  .rw [if_neg h8] at h⊢;exact ⟨oA,rfl⟩)
 obtain ⟨k,hk,hsk⟩:=hc2;have cB:W2.cell? ⟨C,2,none⟩=some (.bool (be ⟨load,false⟩).2.bad):=hk.blk.cell rfl;clear hcur bX hbw ht2 hk hsk;generalize (be ⟨load,false⟩).1=g at*;generalize (be ⟨load,false⟩).2=s1 at*;cases hbd:s1.bad with
 |true=>
  rw [hbd] at cB;have hu:br m (aB ds) load=(jY,false):=(by rw [HU.out,if_pos (.inl hbd)]);clear HU;go_wp2_with (refine aa rfl 40 aZ (.tmp 6) _ rfl rfl rfl bX2 rfl rfl rfA ?_);refine aU rfl aZ rfl (bX2.setRow _) rfl rfl rfl ?_;rw [HS.out];unfold DE;rw [hu];exact ⟨dI,rfl,dV _ _,ag hbw2 hXw _⟩
 |false=>
  rw [hbd] at cB;obtain ⟨h8,hs8⟩:=HN8.out hbd;by_cases hg0:g<0
  .have hu:br m (aB ds) load=(jY,false):=(by rw [HU.out,if_pos (.inr (.inl hg0))]);have t0:decide (g<0)=true:=(by simpa using hg0);clear HU;go_wp2_with (refine aa rfl 40 aZ (.tmp 6) _ rfl rfl rfl bX2 rfl rfl rfA ?_);refine aU rfl aZ rfl (bX2.setRow _) rfl rfl rfl ?_;rw [HS.out];unfold DE;rw [hu];exact ⟨dI,rfl,dV _ _,ag hbw2 hXw _⟩
  have t0:decide (g<0)=false:=(by simpa using hg0);have cg:=rl W2 a n c ds (hr.below hbw2) hn hz;obtain ⟨gn,hgn⟩:∃gn,aP (aB ds)=gn:=⟨_,rfl⟩;rw [hgn] at cg hgz HU;have HGN:=Hd hgn;clear hgn;go_wp2_with fail;refine cg.mono ?_;clear cg;rintro e W3 ⟨rfl,hw3⟩;subst hw3;by_cases hg1:(gn:Int)<g
  .have hu:br m (aB ds) load=(jY,false):=(by rw [HU.out,if_pos (.inr (.inr hg1))]);have t1:decide ((gn:Int)<g)=true:=(by simpa using hg1);clear HU;go_wp2_with (refine aa rfl 40 aZ (.tmp 6) _ rfl rfl rfl bX2 rfl rfl rfA ?_);refine aU rfl aZ rfl (bX2.setRow _) rfl rfl rfl ?_;rw [HS.out];unfold DE;rw [hu];exact ⟨dI,rfl,dV _ _,ag hbw2 hXw _⟩
  have t1:decide ((gn:Int)<g)=false:=(by simpa using hg1);obtain ⟨gg,rfl⟩:∃gg:Nat,g=(gg:Int):=⟨g.toNat,oA⟩;have hu:br m (aB ds) load=_:=HU.out.trans (if_neg (by rw [hbd];rintro (h|h|h);exact absurd h dcA;omega;omega));rw [WM,hs8] at hu;obtain ⟨N,hN⟩:∃N,(ofG (aB ds) (gg:Int)).length=N:=⟨_,rfl⟩;have hNz:N<=1000000:=(by rw [<-hN];exact HOZ.out _);rw [hN] at hu;have HNO:=Hd hN;have HU2:=Hd hu;clear hu HU hN HN8 hs8 hbd cB;have ggz:gg<=1000000:=oA;have i1:IntKind.u64.wrap ((gg:Nat):Int)=(gg:Int):=(by simp [IntKind.wrap,IntKind.bits,IntKind.signed];omega);have i2:IntKind.u64.wrap ((N:Nat):Int)=(N:Int):=(by simp [IntKind.wrap,IntKind.bits,IntKind.signed];omega);have cn:=El ma mn mc m gg W3 (hma.below hbw2) hml oA oA;go_wp2_with fail;refine cn.mono ?_;clear cn;rintro e W4 ⟨Bx,ta,tc,rfl,hBx,hbox,hb4⟩;have bX4:=bX2.old hb4;have hbw4:=ae hbw2 hb4;have hct:=ah.cutV hl hln hlc 8 h8;clear bX2 hbw2 hb4;go_upto_region 6 with (fail);have HCT:=Hd hct;clear hct;go_cut [11,12] (fun v11 v12 wx=>RunR w m gg N X (load.drop 8) v11 v12 wx)
  case first=>
   have j1:(8:Int)<=(ln:Int):=oA;by_cases hcq:lc=8
   .have hln8:ln=8:=oA;have hct:=HCT.out;rw [show kP la lc 8=la from if_pos hcq] at hct;subst hcq hln8;refine aA (0::1::2::6::7::3::4::5::8::9::10::11::12::13::[]) krA krA cdA ?_
    repeat (first|refine lsA ?_|refine lqA ?_)
    have cb:=Bs W4.drew a n c ds (gg:Int) ((hr.below hbw4).below (AT _ _).drew) hn hz;rw [yg,HNO.out] at cb;refine bw rfl rfl rfA (fun K hK=> ?_);go_wp2_with fail;refine cb.mono ?_;clear cb;rintro e W5 ⟨a5,c5,rfl,-,hb5⟩;go_wp2_with fail;refine hK _ _ hb5 ?_;clear hK K
    repeat (first|refine lsA ?_|refine lqA ?_)
    have hbw5:=ae hbw4.drew hb5;have cb:=rg Bx m gg N ta tc la 0 0 (load.drop 8) W5 (hbox.drew.old hb5) (hct.below hbw5) (by rw [ldA,hln];try omega) oA oA oA oA;refine bw rfl rfl rfA (fun K hK=> ?_);go_wp2_with fail;refine cb.mono ?_;clear cb;rintro e W6 ⟨a6,k6,c6,l6,er,rfl,hop,hl6,hr6,hb6,hkc⟩;go_wp2_with fail;refine hK _ _ hb6 ?_;clear hK K
    repeat (first|refine lsA ?_|refine lqA ?_)
    refine bO ?_;go_wp2_with fail;go_meet;exact ⟨a6,k6,c6,l6,er,rfl,rfl,hop,hl6,hr6,ae hbw5 hb6,hkc,(bX4.drew.old hb5).old hb6⟩
   .have hct:=HCT.out;rw [show kP la lc 8=la.map (·.add 8) from by unfold kP;rw [if_neg hcq,Vk]] at hct;refine aA (0::1::2::6::7::3::4::5::8::9::10::11::12::13::[]) krA krA cdA ?_
    repeat (first|refine lsA ?_|refine lqA ?_)
    have cb:=Bs W4.drew a n c ds (gg:Int) ((hr.below hbw4).below (AT _ _).drew) hn hz;rw [yg,HNO.out] at cb;refine bw rfl rfl rfA (fun K hK=> ?_);go_wp2_with fail;refine cb.mono ?_;clear cb;rintro e W5 ⟨a5,c5,rfl,-,hb5⟩;go_wp2_with fail;refine hK _ _ hb5 ?_;clear hK K
    repeat (first|refine lsA ?_|refine lqA ?_)
    have hbw5:=ae hbw4.drew hb5;have cb:=rg Bx m gg N ta tc (la.map (·.add 8)) (ln-8) (lc-8) (load.drop 8) W5 (hbox.drew.old hb5) (hct.below hbw5) (by rw [ldA,hln];try omega) oA oA oA oA;refine bw rfl rfl rfA (fun K hK=> ?_);go_wp2_with fail;refine cb.mono ?_;clear cb;rintro e W6 ⟨a6,k6,c6,l6,er,rfl,hop,hl6,hr6,hb6,hkc⟩;go_wp2_with fail;refine hK _ _ hb6 ?_;clear hK K
    repeat (first|refine lsA ?_|refine lqA ?_)
    refine bO ?_;go_wp2_with fail;go_meet;exact ⟨a6,k6,c6,l6,er,rfl,rfl,hop,hl6,hr6,ae hbw5 hb6,hkc,(bX4.drew.old hb5).old hb6⟩
  case rest=>
   obtain ⟨a6,k6,c6,l6,er,rfl,rfl,hop,hl6,hr6,hbw6,hkc,bX6⟩:=hcut;have hu:=HU2.out;have hk6:k6<=65536:=by
    have q:=ux m gg N (load.drop 8);rw [hop,ldA] at q;dsimp only at q;omega
   rw [hop] at hu;dsimp only at hu;clear HU2 hop bX4 hbox;by_cases her:er=0;rotate_left 1
   .rw [if_pos her] at hu;have te:(er !=0)=true:=(by simpa using her);go_wp2_with (refine aa rfl 40 aZ (.tmp 6) _ rfl rfl rfl bX6 rfl rfl rfA ?_);refine aU rfl aZ rfl (bX6.setRow _) rfl rfl rfl ?_;rw [HS.out];unfold DE;rw [hu];exact ⟨dI,rfl,dV _ _,ag hbw6 hXw _⟩
   subst her;rw [if_neg skA] at hu;have cb:=Cz wc a6 k6 c6 l6 hr6 hl6 oA hkc;unfold jt at cb;generalize (fY l6).1=p at*;generalize (fY l6).2=er at*;have HU3:=Hd hu;clear hu hr6;go_wp2_with fail;refine cb.mono ?_;clear cb;rintro e W7 ⟨hp,rfl,hdo,hb7⟩;have bX7:=bX6.old hb7;have hbw7:=ae hbw6 hb7;replace hdo:=hdo.lower (B':=w.heap.size) hbw6.size;rw [aH];clear bX6 hbw6 hb7;go_upto_region 10 with (refine aa rfl 40 aZ (.tmp 13) _ rfl rfl rfl (Blk.new _ _ _) rfl rfl rfl ?_);obtain ⟨D,hD⟩:=Le W7.heap.size;rw [<-hD];have hXD:X≠D:=(by have:=bX7.lt;omega);refine af (fun W=>Blk W D (ak p hp).toArray 40/\Below W7.heap.size W7 W) ⟨by rw [hD];exact (Blk.new _ _ _).setRow _,by rw [hD];exact ag ((AT _ _).alloc (Lt _) _) (Lt _) _⟩ ?_;clear hD;rintro W8 ⟨bD8,hb8⟩;have bX8:=bX7.old hb8;have hbw8:=ae hbw7 hb8;replace hdo:=hdo.old hb8;clear bX7 hbw7 hb8;replace bD8:=bD8.drew;replace bX8:=bX8.drew;replace hbw8:=hbw8.drew;replace hdo:=hdo.old (AT _ _).drew;have M2:∀W,aq (fun x=>x=D) W8.drew W->W.cell? ⟨D,1,none⟩=some (.int .i64 p.game):=fun W hW=>(show Blk W D (ak p hp).toArray 40 from (hW.2 D rfl).trans bD8).cell rfl;by_cases her:er=0;rotate_left 1
   .have te:(er==0)=false:=(by simpa using her);have hu:br m (aB ds) load=(p,false):=(by rw [HU3.out,Vd (fun q=>her q.1)];rfl);clear HU3;refine aj false (aq (fun x=>x=D)) (aq.refl _) (fun _ _ _ h1 h2=>aq.trans h1 h2) (.step 0 (.step 1 (.step 2 (.step 3 (.step 4 (.step 5 (.step 6 (.step 7 (.step 8 (.step 9 (.step 10 (.step 11 (.step 12 (.step 13 (.step 14 (.step 15 .done)))))))))))))))) krA krA cdA ?_;refine ci (v:= .agg (ak p hp).toArray) rfl rfl rfA (fun W hW=>aI 40 aZ (.tmp 13) rfl rfl rfl (Blk.cells ((hW.2 D rfl).trans bD8)) rfl) ?_;simp only [Act.put,sTA,List.set]
    repeat (first|refine tsA ?_|refine tqA ?_)
    refine an rfl rfl rfA (fun K hK=> ?_);refine bf 40 aZ _ _ rfl rfl rfl bX8 rfl (Lt _) rfA ?_;refine hK _ _ ⟨by simp [World.setRow],fun x hx=>XC _ _ _ _ (by subst hx;omega)⟩ ?_;clear hK K
    repeat (first|refine tsA ?_|refine tqA ?_)
    refine ap ?_;go_wp2_with fail;refine aU rfl aZ rfl (bX8.setRow _) rfl rfl rfl ?_;rw [HS.out];unfold DE;rw [hu,mW];exact ⟨hp,rfl,(hdo.row1 bX8 dcA dcA _),ag hbw8 hXw _⟩
   subst her;by_cases hgm:p.game=(gg:Int);rotate_left 1
   .have te:(p.game==(gg:Int))=false:=(by simpa using hgm);have hu:br m (aB ds) load=(p,false):=(by rw [HU3.out,Vd (fun q=>hgm q.2)];rfl);clear HU3;refine aj false (aq (fun x=>x=D)) (aq.refl _) (fun _ _ _ h1 h2=>aq.trans h1 h2) (.step 0 (.step 1 (.step 2 (.step 3 (.step 4 (.step 5 (.step 6 (.step 7 (.step 8 (.step 9 (.step 10 (.step 11 (.step 12 (.step 13 (.step 14 (.step 15 .done)))))))))))))))) krA krA cdA ?_;refine ci (v:= .agg (ak p hp).toArray) rfl rfl rfA (fun W hW=>aI 40 aZ (.tmp 13) rfl rfl rfl (Blk.cells ((hW.2 D rfl).trans bD8)) rfl) ?_;simp only [Act.put,sTA,List.set]
    repeat (first|refine tsA ?_|refine tqA ?_)
    refine an rfl rfl rfA (fun K hK=> ?_);refine bf 40 aZ _ _ rfl rfl rfl bX8 rfl (Lt _) rfA ?_;refine hK _ _ ⟨by simp [World.setRow],fun x hx=>XC _ _ _ _ (by subst hx;omega)⟩ ?_;clear hK K
    repeat (first|refine tsA ?_|refine tqA ?_)
    refine ap ?_;go_wp2_with fail;refine aU rfl aZ rfl (bX8.setRow _) rfl rfl rfl ?_;rw [HS.out];unfold DE;rw [hu,mW];exact ⟨hp,rfl,(hdo.row1 bX8 dcA dcA _),ag hbw8 hXw _⟩
   have te:(p.game==(gg:Int))=true:=(by simpa using hgm);obtain ⟨fo,hfo⟩:∃fo,bp (aB ds) p=fo:=⟨_,rfl⟩;have hu:br m (aB ds) load=(p,fo):=(by rw [HU3.out,VO ⟨rfl,hgm⟩,Vr,hfo]);have cb:=ul W8.drew a n c ds p hp (hr.below hbw8) hn hz;rw [aH,hfo] at cb;have HGM:=Hd hgm;clear HU3 hgm hfo;refine aj false (aq (fun x=>x=D)) (aq.refl _) (fun _ _ _ h1 h2=>aq.trans h1 h2) (.step 0 (.step 1 (.step 2 (.step 3 (.step 4 (.step 5 (.step 6 (.step 7 (.step 8 (.step 9 (.step 10 (.step 11 (.step 12 (.step 13 (.step 14 (.step 15 .done)))))))))))))))) krA krA cdA ?_;refine ci (v:= .agg (ak p hp).toArray) rfl rfl rfA (fun W hW=>aI 40 aZ (.tmp 13) rfl rfl rfl (Blk.cells ((hW.2 D rfl).trans bD8)) rfl) ?_;simp only [Act.put,sTA,List.set]
   repeat (first|refine tsA ?_|refine tqA ?_)
   refine ci (v:= .agg (ak p hp).toArray) rfl rfl rfA (fun W hW=>aI 40 aZ (.tmp 13) rfl rfl rfl (Blk.cells ((hW.2 D rfl).trans bD8)) rfl) ?_;simp only [Act.put,sTA,List.set];refine an rfl rfl rfA (fun K hK=> ?_);go_wp2_with fail;refine cb.mono ?_;clear cb;rintro e W9 ⟨rfl,hb9⟩;go_wp2_with fail;refine hK _ _ ⟨hb9.size,fun x hx=>by subst hx;exact hb9.block _ bD8.lt⟩ ?_;clear hK K;have bX9:=bX8.old hb9;have hbw9:=ae hbw8 hb9;have hdo9:=hdo.old hb9
   repeat (first|refine tsA ?_|refine tqA ?_)
   refine an rfl rfl rfA (fun K hK=> ?_);refine bf 40 aZ _ _ rfl rfl rfl bX9 rfl (Lt _) rfA ?_;refine hK _ _ ⟨by simp [World.setRow],fun x hx=>XC _ _ _ _ (by subst hx;omega)⟩ ?_;clear hK K
   repeat (first|refine tsA ?_|refine tqA ?_)
   refine ap ?_;go_wp2_with fail;refine aU rfl aZ rfl (bX9.setRow _) rfl rfl rfl ?_;rw [HS.out];unfold DE;rw [hu,mW];exact ⟨hp,rfl,(hdo9.row1 bX9 dcA dcA _),ag hbw9 hXw _⟩
end
end Go.Proofs.YtioigihakjlopaaGreat

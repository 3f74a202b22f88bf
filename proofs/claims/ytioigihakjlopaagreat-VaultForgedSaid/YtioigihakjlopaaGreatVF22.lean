import Derived.Test.YtioigihakjlopaaGreatVF03
import Derived.Test.YtioigihakjlopaaGreatVF21
namespace Go.Proofs.YtioigihakjlopaaGreat
open Go.Proofs.Tryz
set_option linter.unusedVariables false
set_option linter.unusedSimpArgs false
set_option maxHeartbeats 16000000
set_option maxRecDepth 100000
section
open Go.RowKit
attribute [local go_sem] dn dp dL bN
theorem IK (key:Nat->BitVec 8) (r:Nat) (hr:r<11):((fA 176 (kw key)).toList.drop (r*16)).take 16=fL 16 (rk key r):=by
 rw [wP _ oA];exact Jj fun j hj=>by rw [Wi,Cn _ _ _ hj]
theorem DY (s:Nat->BitVec 8) (i:Nat) (h:i<16):trn (thr bx s) i=bx (s (frm i)):=by
 rw [trn,nT _ h,thr,nT _ (vF i h).2.2.1]
theorem Jc (i:Nat):4*((i/4+i)%4)+i%4=frm i:=by unfold frm;omega
structure qF (w:World) (H Kb Bb:Nat) (key b:Nat->BitVec 8) (wr:World):Prop where
 box:Blk wr (H+2) (fA 256 rN) 230
 out:∃z:Array Value,z.size=16/\Blk wr (H+3) z 169
 keys:Blk wr Kb (fA 176 (kw key)) 231
 b:Blk wr Bb (fA 16 b) 169
 below:Below H w wr
theorem qF.drew {w:World} {H Kb Bb:Nat} {key b:Nat->BitVec 8} {wr:World} (h:qF w H Kb Bb key b wr):qF w H Kb Bb key b wr.drew:=⟨h.box,h.out,h.keys,h.b,h.below.drew⟩
theorem qF.old {w:World} {H Kb Bb:Nat} {key b:Nat->BitVec 8} {wr wq:World} (h:qF w H Kb Bb key b wr) (hb:Below wr.heap.size wr wq):qF w H Kb Bb key b wq:=
 ⟨h.box.old hb,by obtain ⟨z,hz,hZ⟩:=h.out;exact ⟨z,hz,hZ.old hb⟩,h.keys.old hb,h.b.old hb,h.below.trans (hb.mono (by have:=h.box.lt;omega))⟩
theorem qF.far {w:World} {H Kb Bb:Nat} {key b:Nat->BitVec 8} {wr:World} (h:qF w H Kb Bb key b wr) {T:Nat} (h1:H+3<T) (h2:T≠Kb) (h3:T≠Bb) (i:Nat) (v:Value):qF w H Kb Bb key b (wr.setCell ⟨T,i,none⟩ v):=
 ⟨h.box.other _ _ (by show H+2≠T;omega),by obtain ⟨z,hz,hZ⟩:=h.out;exact ⟨z,hz,hZ.other _ _ (by show H+3≠T;omega)⟩,h.keys.other _ _ (by show Kb≠T;omega),h.b.other _ _ (by show Bb≠T;omega),h.below.setCell (by show H<=T;omega) _⟩
theorem qF.farRow {w:World} {H Kb Bb:Nat} {key b:Nat->BitVec 8} {wr:World} (h:qF w H Kb Bb key b wr) {T:Nat} (h1:H+3<T) (h2:T≠Kb) (h3:T≠Bb) (cs:Array Value):qF w H Kb Bb key b (wr.setRow T cs):=
 ⟨h.box.setRow_other _ _ oA,by obtain ⟨z,hz,hZ⟩:=h.out;exact ⟨z,hz,hZ.setRow_other _ _ oA⟩,h.keys.setRow_other _ _ oA,h.b.setRow_other _ _ oA,ag h.below oA _⟩
theorem qF.put {w:World} {H Kb Bb:Nat} {key b:Nat->BitVec 8} {wr:World} (h:qF w H Kb Bb key b wr) (h1:H+3<Bb) (b':Nat->BitVec 8):qF w H Kb Bb key b' (wr.setRow Bb (fA 16 b')):=
 ⟨h.box.setRow_other _ _ oA,by obtain ⟨z,hz,hZ⟩:=h.out;exact ⟨z,hz,hZ.setRow_other _ _ oA⟩,h.keys.setRow_other _ _ (Blk.ne h.keys h.b dcA),h.b.setRow _,ag h.below oA _⟩
def En1 (w:World) (H Kb Bb:Nat) (key s:Nat->BitVec 8) (f:Nat) (i:Value) (wr:World):Prop:=
 ∃r:Nat,f+r=11/\1<=r/\i= .int .i64 (r:Int)/\qF w H Kb Bb key (bg key s (r-1)) wr
def En2 (w:World) (H Kb Bb T:Nat) (key b:Nat->BitVec 8) (f:Nat) (i:Value) (wr:World):Prop:=
 ∃k:Nat,f+k=16/\i= .int .i64 (k:Int)/\qF w H Kb Bb key b wr/\Blk wr T (fA 16 (fun j=>if j<k then trn (thr bx b) j else 0#8)) 169
theorem Eo (key s:Nat->BitVec 8) (w:World):
  Calls prog 182 #[.agg (fA 16 key),.agg (fA 16 s),.agg (fA 256 rN)] w fun e w'=>e= .returned (.agg (fA 16 (enc key s)))/\Below w.heap.size w w':=by
 have hz1:=jX FR;have HZ:=Hd hz1;clear hz1;go_enter func182,ntmps182;go_upto_region 1 with (fail);refine af (fun W0=>Blk W0 w.heap.size (fA 16 key) 169/\Blk W0 (w.heap.size+1) (fA 16 s) 169/\Blk W0 (w.heap.size+2) (fA 256 rN) 230/\Blk W0 (w.heap.size+3) (fA 16 fun _=>0#8) 169/\Below w.heap.size w W0) ⟨(Blk.new3 _ _ _ _ _).alloc _,(Blk.new3' _ _ _ _ _).alloc _,(Blk.new3'' w (fA 256 rN) _ _ _).alloc _,?_,cL⟩ ?_
 .have:=Blk.new (((w.alloc (.cells (fA 16 key) 169)).alloc (.cells (fA 16 s) 169)).alloc (.cells (fA 256 rN) 230)) (fA 16 fun _=>0#8) 169;simp at this;exact this
 rintro w0 ⟨hK,hS,hX,hO,hb⟩;obtain ⟨H,hH⟩:=Le w.heap.size;rw [<-hH] at hK hS hX hO hb⊢;have HH:=Hd hH;clear hH;go_wp2_with (first|refine am rfl 169 dU _ rfl rfl hK (aD _ _) ?_|refine am rfl 230 rS _ rfl rfl hX (aD _ _) ?_);refine (Bt key _).mono ?_;rintro e w1 ⟨rfl,hb1⟩;replace hb:=hb.trans (hb1.mono (by have:=hK.lt;omega));replace hS:=hS.old hb1;replace hX:=hX.old hb1;replace hO:=hO.old hb1;clear hK hb1;have hz1:=HZ.out;go_upto_region 2 with (refine aa rfl 231 FD (.tmp 7) _ (cells:=fA 176 (kw key)) rfl rfl rfl (Blk.new _ _ _) (aD _ _) (aD _ _) (fj _ _) ?_);obtain ⟨Kb,hKb⟩:=Le w1.heap.size;have hHK:H+3<Kb:=(by have:=hO.lt;omega);refine af (fun W0=>W0.heap.size=Kb+1/\Blk W0 (H+1) (fA 16 s) 169/\Blk W0 (H+2) (fA 256 rN) 230/\Blk W0 (H+3) (fA 16 fun _=>0#8) 169/\Blk W0 Kb (fA 176 (kw key)) 231/\Below H w W0) ⟨by simp [World.setRow,hKb],(hS.alloc _).setRow_other _ _ oA,(hX.alloc _).setRow_other _ _ oA,(hO.alloc _).setRow_other _ _ oA,by rw [hKb];exact (Blk.new _ _ _).setRow _,ag (hb.alloc oA _) oA _⟩ ?_;rw [<-hKb];clear hS hX hO hb hKb hz1;rintro w2 ⟨hs,hS,hX,hO,hK,hb⟩;have HS:=Hd hs;clear hs;have hkp:=IK key 0 oA;rw [Nat.zero_mul] at hkp;have HKP:=Hd hkp;clear hkp;go_wp2_with (first|refine am rfl 169 dU _ rfl rfl hS (aD _ _) ?_|refine dk rfl 169 dU _ rfl rfl hK HKP.out (dd _ _) ?_);refine (sw s (rk key 0) _).mono ?_;rintro e w3 ⟨rfl,hb3⟩;replace hb:=hb.trans (hb3.mono (by have:=hX.lt;omega));replace hX:=hX.old hb3;replace hO:=hO.old hb3;replace hK:=hK.old hb3;clear hS HS hb3;go_upto_region 3 with (refine aa rfl 169 dU (.tmp 8) _ (cells:=fA 16 (sx s (rk key 0))) rfl rfl rfl (Blk.new _ _ _) (aD _ _) rfl (fj _ _) ?_);obtain ⟨Bb,hBb⟩:=Le w3.heap.size;have hKB:Kb<Bb:=(by have:=hK.lt;omega);rw [<-hBb];have hB0:=Blk.new w3 (fA 16 fun _=>0#8) 169;rw [<-hBb] at hB0;refine af (fun W0=>qF w H Kb Bb key (bg key s 0) W0) ?_ ?_
 .exact ⟨(hX.alloc _).setRow_other _ _ oA,⟨_,aD _ _,(hO.alloc _).setRow_other _ _ oA⟩,(hK.alloc _).setRow_other _ _ oA,hB0.setRow _,ag (hb.alloc oA _) oA _⟩
 clear hX hO hb hBb hK hB0;rintro w4 hI;go_wp2_with fail;go_loopg [9] 10 (En1 w H Kb Bb key s)
 case atStart=>exact ⟨1,oA,oA,rfl,hI⟩
 case round=>
  clear hI;obtain ⟨r,hf,hr1,rfl,hI⟩:=hrel;by_cases hr:r<11
  .have tr:decide ((r:Int)<=10)=true:=soA;obtain ⟨b,hb⟩:=Le (bg key s (r-1));rw [<-hb] at hI;have HB:=Hd hb;have HF:=Hd hf;clear hb hf;obtain ⟨T,hT⟩:=Le wr.heap.size;have hBT:Bb<T:=(by have:=hI.b.lt;omega);obtain ⟨g0,rfl⟩:∃g:Nat,g=gk:=⟨_,rfl⟩;go_wp2_with fail;refine af (fun W0=>qF w H Kb Bb key b W0/\Blk W0 T (fA 16 fun _=>0#8) 169) ⟨hI.old ((AT _ _).alloc (Lt _) _),by rw [hT];exact Blk.new _ _ _⟩ ?_;rw [<-hT];clear hI hT;rintro w5 ⟨hI,hT⟩;go_loopg [11] 16 (En2 w H Kb Bb T key b)
   case atStart=>exact ⟨0,oA,rfl,hI,by simpa using hT⟩
   case round=>
    clear hI hT;obtain ⟨k,hf,rfl,hI,hT⟩:=hrel;by_cases hk:k<16
    .have tk:decide ((k:Int)<16)=true:=soA;have HF2:=Hd hf;clear hf;have l0:=jV (b (frm k));have u0:=qA (b (frm k));have n0:=gu (b (frm k));have c0:wr.cell? ⟨Bb,4*((k/4+k)%4)+k%4,none⟩=some (.int .u8 (B8 (b (frm k)))):=(by rw [Jc];exact hI.b.atF (vF k hk).2.2.1 rfl);have c1:wr.cell? ⟨H+2,(b (frm k)).toNat,none⟩=some (.int .u8 (B8 (bx (b (frm k))))):=hI.box.atF (b (frm k)).isLt (by rw [rN,mF]);have r3:=hT.rule;have f3:=hT.free;have ck3:=eE (fun j=>if j<k then trn (thr bx b) j else 0#8) hk;go_wp2_with fail;clear r3 f3 ck3 c0 c1;go_roundg (gk-1)
     case rel=>
      have hf:=HF2.out;refine ⟨k+1,oA,gnA,hI.far oA oA oA _ _,?_⟩;rw [<-DY b k hk];exact (hT.setF hk (trn (thr bx b) k)).ofF fun i _=>Wn (eY k (trn (thr bx b)) fun _=>0#8) i
     case measure=>have hf:=HF2.out;omega
    .obtain rfl:k=16:=oA;have tk:decide (((16:Nat):Int)<16)=false:=skA;clear hf;replace hT:=hT.ofF (t:=trn (thr bx b)) fun i h=>(by rw [if_pos h]);have hrI:(r:Int)<11:=oA;by_cases h10:r<10
     .have t10:decide ((r:Int)<10)=true:=soA;go_wp2_with (refine am rfl 169 dU _ rfl rfl hT (aD _ _) ?_);refine (Em mE (trn (thr bx b)) _).mono ?_;rintro e w6 ⟨rfl,hb6⟩;replace hI:=hI.old hb6;replace hT:=hT.old hb6;clear hb6;go_wp2_with (refine aa rfl 169 dU (.tmp 10) _ rfl rfl rfl hT (aD _ _) (aD _ _) (fj _ _) ?_);refine af (fun W0=>qF w H Kb Bb key b W0/\Blk W0 T (fA 16 (mx mE (trn (thr bx b)))) 169) ⟨hI.farRow oA oA oA _,hT.setRow _⟩ ?_;clear hI hT;rintro w6 ⟨hI,hT⟩;have hkr:∀W,Old w6.drew W->∀j (hj:j<(fL 16 (rk key r)).length),W.cell? ⟨Kb,r*16+j,none⟩=some (fL 16 (rk key r))[j]:=fun W hW j hj=>by
       have hj':j<16:=(by simpa [dd] using hj);rw [(hI.keys.drew.old hW).atF (show r*16+j<176 by omega) rfl];simp [fL,fv,Wi r 16,Cn key r j hj']
      have HKR:=Hd hkr;clear hkr;refine aj true Old Old.refl Old.trans (.step 0 (.step 1 (.step 2 (.step 3 (.step 4 (.step 5 .done)))))) krA krA cdA ?_;refine ci (v:= .agg (fA 16 (mx mE (trn (thr bx b))))) rfl rfl rfA (fun W hW=>aI 169 dU _ rfl rfl rfl (hT.drew.old hW).cells (dd _ _)) ?_;simp only [Act.put,sTA,List.set]
      repeat (first|refine tsA ?_|refine tqA ?_)
      refine ci (v:= .agg (fA 16 (rk key r))) rfl rfl rfA (fun W hW=>aI 169 dU _ rfl rfl rfl (HKR.out W hW) (dd _ _)) ?_;simp only [Act.put,sTA,List.set];refine an rfl rfl rfA (fun K hK=> ?_);go_wp2_with fail;refine (sw _ (rk key r) _).mono ?_;rintro e w7 ⟨rfl,hb7⟩;go_wp2_with fail;refine hK _ _ hb7 ?_;clear hK K HKR;have hI7:=hI.drew.old hb7;refine az rfl rfl rfA (fun K hK=> ?_);refine bf 169 dU _ _ rfl rfl rfl hI7.b (aD _ _) (by rw [aD];omega) (fj _ _) ?_;refine hK _ _ ?_;clear hK K;refine ap ?_;rw [mV _ _ (by rw [aD,aD])];refine sI (fun W0=>qF w H Kb Bb key (sx (mx mE (trn (thr bx b))) (rk key r)) W0) (hI7.put oA _) ?_;clear hI hI7 hb7 hT;rintro w8 hI;go_wp2_with fail;go_roundg (g0-1)
      case rel=>
       have hf:=HF.out;refine ⟨r+1,oA,oA,gnA,?_⟩;rw [show r+1-1=(r-1)+1 by omega,bg,rnd,show r-1+1=r by omega,if_pos h10,<-HB.out];exact hI
      case measure=>have hf:=HF.out;omega
     .have t10:decide ((r:Int)<10)=false:=soA;obtain ⟨w6,rfl⟩:∃w6:World,w6=wr:=⟨_,rfl⟩;go_wp2_with fail;have hkr:∀W,Old w6.drew W->∀j (hj:j<(fL 16 (rk key r)).length),W.cell? ⟨Kb,r*16+j,none⟩=some (fL 16 (rk key r))[j]:=fun W hW j hj=>by
       have hj':j<16:=(by simpa [dd] using hj);rw [(hI.keys.drew.old hW).atF (show r*16+j<176 by omega) rfl];simp [fL,fv,Wi r 16,Cn key r j hj']
      have HKR:=Hd hkr;clear hkr;refine aj true Old Old.refl Old.trans (.step 0 (.step 1 (.step 2 (.step 3 (.step 4 (.step 5 .done)))))) krA krA cdA ?_;refine ci (v:= .agg (fA 16 (trn (thr bx b)))) rfl rfl rfA (fun W hW=>aI 169 dU _ rfl rfl rfl (hT.drew.old hW).cells (dd _ _)) ?_;simp only [Act.put,sTA,List.set]
      repeat (first|refine tsA ?_|refine tqA ?_)
      refine ci (v:= .agg (fA 16 (rk key r))) rfl rfl rfA (fun W hW=>aI 169 dU _ rfl rfl rfl (HKR.out W hW) (dd _ _)) ?_;simp only [Act.put,sTA,List.set];refine an rfl rfl rfA (fun K hK=> ?_);go_wp2_with fail;refine (sw _ (rk key r) _).mono ?_;rintro e w7 ⟨rfl,hb7⟩;go_wp2_with fail;refine hK _ _ hb7 ?_;clear hK K HKR;have hI7:=hI.drew.old hb7;refine az rfl rfl rfA (fun K hK=> ?_);refine bf 169 dU _ _ rfl rfl rfl hI7.b (aD _ _) (by rw [aD];omega) (fj _ _) ?_;refine hK _ _ ?_;clear hK K;refine ap ?_;rw [mV _ _ (by rw [aD,aD])];refine sI (fun W0=>qF w H Kb Bb key (sx (trn (thr bx b)) (rk key r)) W0) (hI7.put oA _) ?_;clear hI hI7 hb7 hT;rintro w8 hI;go_wp2_with fail;go_roundg (g0-1)
      case rel=>
       have hf:=HF.out;refine ⟨r+1,oA,oA,gnA,?_⟩;rw [show r+1-1=(r-1)+1 by omega,bg,rnd,show r-1+1=r by omega,if_neg h10,<-HB.out];exact hI
      case measure=>have hf:=HF.out;omega
  .obtain rfl:r=11:=oA;have tr:decide (((11:Nat):Int)<=10)=false:=skA;clear hf;obtain ⟨hX,⟨z,hz,hZ⟩,hK,hB,hb⟩:=hI;go_wp2_with (first|refine am rfl 169 dU _ rfl rfl hB (aD _ _) ?_|refine aa rfl 169 dU (.tmp 6) _ (cells:=fA 16 (bg key s (11-1))) rfl rfl rfl hZ (aD _ _) hz (fj _ _) ?_);refine cv rfl dU rfl (hZ.setRow _) (aD _ _) rfl ⟨rfl,?_⟩;rw [HH.out] at hb⊢;exact ag hb oA _
end
section
open Go.RowKit
attribute [local go_sem] dn dp dL bN
def ctr (nonce:Nat->BitVec 8) (q:Nat):Nat->BitVec 8:=fun j=>if j<12 then nonce j else BitVec.ofNat 8 (q/2^(24-8*(j-12)))
def ksb (key nonce:Nat->BitVec 8) (i:Nat):BitVec 8:=enc key (ctr nonce (i/16)) (i%16)
def stk (key nonce:Nat->BitVec 8) (l:List UInt8) (k:Nat):List UInt8:=(List.range k).map fun i=>⟨(l.getD i 0).toBitVec^^^ksb key nonce i⟩
def stm (key nonce:Nat->BitVec 8) (l:List UInt8):List UInt8:=stk key nonce l l.length
theorem xH (key nonce:Nat->BitVec 8) (l:List UInt8) (k:Nat):stk key nonce l (k+1)=stk key nonce l k++ [⟨(l.getD k 0).toBitVec^^^ksb key nonce k⟩]:=by
 simp [stk,List.range_succ]
theorem zi (key nonce:Nat->BitVec 8) (l:List UInt8) (k:Nat):(stk key nonce l k).length=k:=by simp [stk]
theorem eX (key nonce:Nat->BitVec 8) (l:List UInt8):(stm key nonce l).length=l.length:=zi _ _ _ _
theorem Ho (key nonce:Nat->BitVec 8) (l:List UInt8):stm key nonce (stm key nonce l)=l:=by
 apply List.ext_getElem
 .rw [eX,eX]
 .intro i h1 h2;simp only [stm,stk,Wz,XV,lmA,List.length_range];rw [VX,Vx (by simpa using h2)];simp only [Option.getD_some,Wz,XV];rw [XM,BitVec.xor_self,BitVec.xor_zero,VX,Vx h2];rfl
theorem wY:bu prog 22 5 1 1:=bu.mk (z:= .int .u8 0) underlying22 krA rfl oA
theorem Ap:lR prog 175 12:=⟨⟨_,underlying175,rfl⟩,krA⟩
theorem Li:Tryz.prog.arrayLen 175=12:=by kernel_rfl
theorem Gx:Tryz.prog.elem 175=5:=by kernel_rfl
theorem AQ (W:World):(sizeOf 5).run prog W= .ok 1 W:=by
 have:=vE;cases hq:Tryz.prog.info? 5 with
 |none=>simp [hq] at this
 |some i=>simp [hq] at this;simp [sizeOf,typeInfo,hq,this]
theorem Pa (b:Nat) (W:World):(Instr.sliceAt 175 (.pointer (some ⟨b,0,none⟩)) none none none).run prog W= .ok (.slice (some ⟨b,0,none⟩) 12 12) W:=by
 have ht:Tryz.prog.underlying 175=some (.array (Tryz.prog.arrayLen 175) (Tryz.prog.elem 175)):=(by rw [Li,Gx];exact underlying175);rw [WQ W _ _ ht,Gx,AQ,Li];simp [slicedAt];rfl
theorem OZ (b:Nat) (W:World):(Instr.sliceAt 169 (.pointer (some ⟨b,0,none⟩)) none none none).run prog W= .ok (.slice (some ⟨b,0,none⟩) 16 16) W:=by
 have ht:Tryz.prog.underlying 169=some (.array (Tryz.prog.arrayLen 169) (Tryz.prog.elem 169)):=(by rw [Cg,yB];exact underlying169);rw [WQ W _ _ ht,yB,AQ,Cg];simp [slicedAt];rfl
theorem tX (nonce:Nat->BitVec 8):cD (fA 16 fun _=>0#8) 0 (fL 12 nonce).toArray=fA 16 fun j=>if j<12 then nonce j else 0#8:=by
 have:=uY (n:=16) (o:=0) (m:=12) (fun _=>0#8) nonce oA;rw [show (fL 12 nonce).toArray=fA 12 nonce from rfl,this];exact tm fun i _=>by simp
structure JL (w:World) (H g X Y:Nat) (key nonce:Nat->BitVec 8) (l:List UInt8) (k:Nat) (oa:Option Addr) (oc:Nat) (xs ys:Nat->BitVec 8) (wr:World):Prop where
 own:Own wr H 5 1 oa k oc ((stk key nonce l k).map bv)
 cph:Blk wr g (fA 688 (cph key)) 233
 x:Blk wr X (fA 16 xs) 169
 y:Blk wr Y (fA 16 ys) 169
 below:Below H w wr
def Mj (w:World) (H g X Y:Nat) (key nonce:Nat->BitVec 8) (l:List UInt8) (f:Nat) (o i:Value) (wr:World):Prop:=
 ∃(k:Nat) (oa:Option Addr) (oc:Nat) (xs ys:Nat->BitVec 8),f+k=l.length/\i= .int .i64 (k:Int)/\o= .slice oa k oc/\(∀j,j<12->xs j=nonce j)/\(k%16≠0->∀j,j<16->ys j=enc key (ctr nonce (k/16)) j)/\JL w H g X Y key nonce l k oa oc xs ys wr
def Po (w:World) (H g X Y:Nat) (key nonce:Nat->BitVec 8) (l:List UInt8) (k:Nat) (oa:Option Addr) (oc:Nat) (xs ys:Nat->BitVec 8) (f:Nat) (j:Value) (wr:World):Prop:=
 ∃m:Nat,f+m=4/\j= .int .i64 (m:Int)/\JL w H g X Y key nonce l k oa oc (fun i=>if i<12 then nonce i else if i<12+m then ctr nonce (k/16) i else xs i) ys wr
theorem qp (nonce:Nat->BitVec 8) (k m p:Nat) (hp:p=2^(24-8*m)):B8 (ctr nonce (k/16) (12+m))=((k/16/p%256:Nat):Int):=by
 rw [ctr,if_neg oA,show 12+m-12=m by omega,<-hp];show (((BitVec.ofNat 8 (k/16/p)).toNat:Nat):Int)=_;rw [We]
theorem LH (nonce:Nat->BitVec 8) (k:Nat) (_h:k<65536):(k:Int)/16/16777216=B8 (ctr nonce (k/16) (12+0)):=by rw [qp nonce k 0 16777216 rfl];omega
theorem LG (nonce:Nat->BitVec 8) (k:Nat) (_h:k<65536):(k:Int)/16/65536=B8 (ctr nonce (k/16) (12+1)):=by rw [qp nonce k 1 65536 rfl];omega
theorem LF (nonce:Nat->BitVec 8) (k:Nat) (_h:k<65536):(k:Int)/16/256=B8 (ctr nonce (k/16) (12+2)):=by rw [qp nonce k 2 256 rfl];omega
theorem LD (nonce:Nat->BitVec 8) (k:Nat):(k:Int)/16%256=B8 (ctr nonce (k/16) (12+3)):=by rw [qp nonce k 3 1 rfl];omega
theorem Jm (nonce:Nat->BitVec 8) (k:Nat):(k:Int)/16/1%256=B8 (ctr nonce (k/16) (12+3)):=by rw [qp nonce k 3 1 rfl];omega
theorem tB {wr:World} {X k m:Nat} {nonce xs:Nat->BitVec 8} {z:Int} (hm:m<4) (_hk:12+m<16) (h:Blk wr X (fA 16 (fun i=>if i<12 then nonce i else if i<12+m then ctr nonce (k/16) i else xs i)) 169)
  (hz:z=B8 (ctr nonce (k/16) (12+m))):Blk (wr.setCell ⟨X,12+m,none⟩ (.int .u8 z)) X (fA 16 (fun i=>if i<12 then nonce i else if i<12+(m+1) then ctr nonce (k/16) i else xs i)) 169:=by
 subst hz;refine (h.setF oA (ctr nonce (k/16) (12+m))).ofF fun i hi=> ?_;by_cases e:i=12+m
 .subst e;rw [if_pos rfl,if_neg oA,if_pos oA]
 .rw [if_neg e];by_cases h2:i<12
  .rw [if_pos h2,if_pos h2]
  .rw [if_neg h2,if_neg h2];by_cases h3:i<12+m
   .rw [if_pos h3,if_pos oA]
   .rw [if_neg h3,if_neg oA]
theorem CR (nonce xs:Nat->BitVec 8) {q:Nat} (i:Nat) (h:i<16):(if i<12 then nonce i else if i<12+4 then ctr nonce q i else xs i)=ctr nonce q i:=by
 by_cases h2:i<12
 .rw [if_pos h2,ctr,if_pos h2]
 .rw [if_neg h2,if_pos oA]
theorem Bi {w:World} {H g X Y:Nat} {key nonce:Nat->BitVec 8} {l:List UInt8} {k f:Nat} {oa oa':Option Addr} {oc oc':Nat} {xs:Nat->BitVec 8} {w6 w7:World} (hk:k<l.length) (hf:f+k=l.length) (hH:H<=w6.heap.size)
  (hx:∀j,j<12->xs j=nonce j) (hin:JL w H g X Y key nonce l k oa oc xs (enc key (ctr nonce (k/16))) w6) {cs:Array Value} {ty:TypeId}
  (hown:Own w7 H 5 1 oa' (k+1) oc' ((stk key nonce l k).map bv++ [.int .u8 (B8 (l[k].toBitVec^^^enc key (ctr nonce (k/16)) (k%16)))]))
  (hg:(w6.alloc (.cells cs ty)).grownBy w7 (Value.slice oa k oc).ownBlock):Mj w H g X Y key nonce l (f-1) (.slice oa' (k+1) oc') (.int .i64 ((k:Int)+1)) w7:=by
 have hG:l.getD k 0=l[k]:=(by rw [VX,Vx hk];rfl);have kn:=bQ.grown (hin.own.alloc (.cells cs ty)) hg;refine ⟨k+1,oa',oc',xs,enc key (ctr nonce (k/16)),oA,gnA,rfl,hx,fun h j _=> ?_,?_,(hin.cph.alloc _).keepNot kn dcA,(hin.x.alloc _).keepNot kn dcA,(hin.y.alloc _).keepNot kn dcA,(hin.own.alloc _).grown (hin.below.alloc hH _) (Lt _) hg soA⟩
 .rw [show (k+1)/16=k/16 by omega]
 .rw [xH,VG,hG];exact hown
theorem qY (key nonce:Nat->BitVec 8) (a:Option Addr) (len cap:Nat) (l:List UInt8) (w:World) (hl:ah w a l) (hlen:l.length=len) (hm:len<=65536):
  Calls prog 112 #[.agg (fA 16 key),.agg (fA 12 nonce),.slice a len cap] w fun e w'=>∃a' c',e= .returned (.tuple #[.slice a' len c',.int .i64 0])/\Own w' w.heap.size 5 1 a' len c' ((stm key nonce l).map bv)/\Below w.heap.size w w':=by
 have t1:decide ((65536:Int)<(len:Int))=false:=soA;obtain ⟨i0,hi0,hz0,hs0,hb0⟩:=info_parts (show (Tryz.prog.info? 5).map (fun i=>(i.zero,i.size,i.bytes))=some (some (.int .u8 0),1,1) by kernel_rfl);have HI:=Hd hi0;have HZ:=Hd hz0;have HS:=Hd hs0;have HB:=Hd hb0;have HL:=Hd hlen;clear hi0 hz0 hs0 hb0 hlen;go_enter func112,ntmps112;go_upto_region 3 with (fail);refine af (fun W0=>Blk W0 w.heap.size (fA 16 key) 169/\Blk W0 (w.heap.size+1) (fA 12 nonce) 175/\w.heap.size+2<=W0.heap.size/\Below w.heap.size w W0) ⟨Blk.new2 _ _ _ _,Blk.new2' _ _ _ _,skA,cL⟩ ?_;rintro w0 ⟨hK,hN,hs,hb⟩;obtain ⟨H,hH⟩:=Le w.heap.size;rw [<-hH] at hK hN hs hb⊢;have HH:=Hd hH;clear hH;go_wp2_with (refine am rfl 169 dU _ rfl rfl hK (aD _ _) ?_);refine (Bz key _).mono ?_;rintro e w1 ⟨g,rfl,hg,hC,hb1⟩;have hb01:Below H w w1:=hb.trans (hb1.mono oA);have hs1:H+2<=w1.heap.size:=(by have:=hb1.size;omega);have hN1:=hN.old hb1;have hg2:H+2<=g:=oA;clear hK hN hb hs hb1;go_wp2_with (at_make;refine wpList_make_own _ rfl _ _ 22 rfl H 5 i0 (.int .u8 0) 1 underlying22 HI.out HZ.out HS.out .i64 .i64 _ len rfl rfl rfl (by rw [HB.out];omega) mxA oA ?_;intro w2 hown hgrow);obtain ⟨G,hG⟩:=Le w1.heap.size;obtain ⟨X,hX⟩:=Le w2.heap.size;have hs2:w1.heap.size<=w2.heap.size:=hgrow.size;have hgX:g<X:=(by have:=hC.lt;omega);have hGg:H<=g:=oA;refine af (fun W0=>W0.heap.size=X+1/\Own W0 H 5 1 (some ⟨G,0,none⟩) 0 len []/\Blk W0 g (fA 688 (cph key)) 233/\Blk W0 (H+1) (fA 12 nonce) 175/\Blk W0 X (fA 16 fun _=>0#8) 169/\Below H w W0) ⟨by simp [hX],by rw [hG];exact Own.alloc hown _,(hC.grown hgrow skA).alloc _,(hN1.grown hgrow skA).alloc _,by rw [hX];exact Blk.new _ _ _,(hb01.grown hgrow oA skA).alloc oA _⟩ ?_;rw [<-hG,<-hX];have hHX:H+2<=X:=oA;clear hC hN1 hb01 hown hgrow hs1 hs2 hg hG hX;rintro w3 ⟨hs,hO,hC,hN,hX,hb⟩;have HS3:=Hd hs;clear hs;have q1:=OZ X;have q2:=Pa (H+1);refine cj X (.step 0 (.step 1 (.step 2 .done))) krA krA cdA ?_
 repeat (first|refine tsA ?_|refine tqA ?_)
 refine an rfl rfl rfA (fun K hK=> ?_);refine gF (.tmp 23) (.tmp 24) 22 22 rfl underlying22 vE rfl rfl hX.drew (cs:=fL 12 nonce) (by rw [dd];rfl) (aw.src (vs:=fL 12 nonce) (aw.mk hN.drew.cells) 12|>fun h j v hv=>h j v (by rwa [Vj (by simp [dd])])) (by simp [dd,aD]) (by simp [fL,fv,Value.oneCell']) ?_;refine hK _ _ (But.setRow _ _) ?_;clear hK K q1 q2;refine ap ?_;rw [tX];go_wp2_with fail;rw [HS3.out];refine af (fun W0=>JL w H g X (X+1) key nonce l 0 (some ⟨G,0,none⟩) len (fun j=>if j<12 then nonce j else 0#8) (fun _=>0#8) W0) ?_ ?_
 .exact ⟨(hO.drew.setRow_apart hX.drew dcA _).alloc _,(hC.drew.setRow_other _ _ oA).alloc _,(hX.drew.setRow _).alloc _,by have:=Blk.new (w3.drew.setRow X (fA 16 fun j=>if j<12 then nonce j else 0#8)) (fA 16 fun _=>0#8) 169;rwa [show (w3.drew.setRow X (fA 16 fun j=>if j<12 then nonce j else 0#8)).heap.size=X+1 from (by simpa [World.setRow] using HS3.out)] at this,(ag hb.drew oA _).alloc (by simp [World.setRow];have:=HS3.out;omega) _⟩
 clear hO hC hN hX hb HS3;rintro w4 hin;obtain ⟨Y,hY⟩:=Le (X+1);rw [<-hY] at hin⊢;have hXY:X<Y:=oA;clear hY;go_loopg [9,28] len (Mj w H g X Y key nonce l)
 case atStart=>
  have:=HL.out;exact ⟨0,_,_,_,_,oA,rfl,rfl,fun j hj=>by rw [if_pos hj],fun h=>absurd rfl h,hin⟩
 case round=>
  clear hin;obtain ⟨k,oa,oc,xs,ys,hf,rfl,rfl,hxs,hys,hin⟩:=hrel;have HF:=Hd hf;have HX:=Hd hxs;have HY:=Hd hys;by_cases hlt:k<len
  .have tk:decide ((k:Int)<(len:Int))=true:=soA;have hkl:k<l.length:=(by rw [HL.out];exact hlt);clear hf hxs hys;obtain ⟨b,o,hab,hcell⟩:=(hl.below (HH.out▸hin.below)).at oA;subst hab;have hc:wr.cell? ⟨b,o+k,none⟩=some (.int .u8 (B8 l[k].toBitVec)):=hcell k hkl;clear hcell;by_cases h16:k%16=0
   .have t16:((k:Int)%16==0)=true:=soA;clear h16;go_wp2_with fail;clear t16;obtain ⟨g0,rfl⟩:∃g:Nat,g=gk:=⟨_,rfl⟩;go_loopg [36] 4 (Po w H g X Y key nonce l k oa oc xs ys)
    case atStart=>exact ⟨0,oA,rfl,⟨hin.own,hin.cph,hin.x.ofF fun i hi=>by
     by_cases h:i<12
     .rw [if_pos h,HX.out i h]
     .rw [if_neg h,if_neg oA],hin.y,hin.below⟩⟩
    case round=>
     clear hin hc;obtain ⟨m,hf,rfl,hin⟩:=hrel;have HM:=Hd hf;have hcs:m=0\/m=1\/m=2\/m=3\/m=4:=oA;clear hf;rcases hcs with rfl|rfl|rfl|rfl|rfl
     .have r1:=hin.x.rule;have f1:=hin.x.free;have c1:=eE (n:=16) (i:=12) (fun i=>if i<12 then nonce i else if i<12+0 then ctr nonce (k/16) i else xs i) oA;go_wp2_with fail;clear r1 f1 c1;go_roundg (gk-1)
      case rel=>exact ⟨1,by have:=HM.out;omega,rfl,hin.own.setCell_apart hin.x dcA _ _,hin.cph.other _ _ (by show g≠X;omega),tB oA oA hin.x (LH nonce k oA),hin.y.other _ _ (by show Y≠X;omega),hin.below.setCell (by show H<=X;omega) _⟩
      case measure=>have:=HM.out;omega
     .have r1:=hin.x.rule;have f1:=hin.x.free;have c1:=eE (n:=16) (i:=13) (fun i=>if i<12 then nonce i else if i<12+1 then ctr nonce (k/16) i else xs i) oA;go_wp2_with fail;clear r1 f1 c1;go_roundg (gk-1)
      case rel=>exact ⟨2,by have:=HM.out;omega,rfl,hin.own.setCell_apart hin.x dcA _ _,hin.cph.other _ _ (by show g≠X;omega),tB oA oA hin.x (LG nonce k oA),hin.y.other _ _ (by show Y≠X;omega),hin.below.setCell (by show H<=X;omega) _⟩
      case measure=>have:=HM.out;omega
     .have r1:=hin.x.rule;have f1:=hin.x.free;have c1:=eE (n:=16) (i:=14) (fun i=>if i<12 then nonce i else if i<12+2 then ctr nonce (k/16) i else xs i) oA;go_wp2_with fail;clear r1 f1 c1;go_roundg (gk-1)
      case rel=>exact ⟨3,by have:=HM.out;omega,rfl,hin.own.setCell_apart hin.x dcA _ _,hin.cph.other _ _ (by show g≠X;omega),tB oA oA hin.x (LF nonce k oA),hin.y.other _ _ (by show Y≠X;omega),hin.below.setCell (by show H<=X;omega) _⟩
      case measure=>have:=HM.out;omega
     .have r1:=hin.x.rule;have f1:=hin.x.free;have c1:=eE (n:=16) (i:=15) (fun i=>if i<12 then nonce i else if i<12+3 then ctr nonce (k/16) i else xs i) oA;go_wp2_with fail;clear r1 f1 c1;go_roundg (gk-1)
      case rel=>exact ⟨4,by have:=HM.out;omega,rfl,hin.own.setCell_apart hin.x dcA _ _,hin.cph.other _ _ (by show g≠X;omega),tB oA oA hin.x (by first|exact LD nonce k|exact Jm nonce k),hin.y.other _ _ (by show Y≠X;omega),hin.below.setCell (by show H<=X;omega) _⟩
      case measure=>have:=HM.out;omega
     .have hin4:JL w H g X Y key nonce l k oa oc (ctr nonce (k/16)) ys wr:=⟨hin.own,hin.cph,hin.x.ofF fun i hi=>CR nonce _ i hi,hin.y,hin.below⟩;clear hin;have hx4:=hin4.x;go_wp2_with (refine am rfl 169 dU _ rfl rfl hx4 (aD _ _) ?_);refine (Ar g (ctr nonce (k/16)) key _ hin4.cph).mono ?_;rintro e w5 ⟨rfl,hb5⟩;clear hx4;have hy5:=hin4.y.old hb5;go_upto_region 18 with (refine aa rfl 169 dU (.tmp 11) _ rfl rfl rfl hy5 (aD _ _) (aD _ _) (fj _ _) ?_);refine af (fun W0=>JL w H g X Y key nonce l k oa oc (ctr nonce (k/16)) (enc key (ctr nonce (k/16))) W0) ⟨(hin4.own.old hb5).setRow_apart hy5 dcA _,(hin4.cph.old hb5).setRow_other _ _ oA,(hin4.x.old hb5).setRow_other _ _ oA,hy5.setRow _,ag (hin4.below.trans (hb5.mono (by have:=hin4.x.lt;omega))) oA _⟩ ?_;clear hin4 hb5 hy5;rintro w6 hin5;have hy:=hin5.y.atF (show k%16<16 by omega) rfl;have hH5:H<=w6.heap.size:=(by have:=hin5.x.lt;omega);go_wp2_with (at_builtin;refine al rfl _ _ 22 rfl wY rfl (hin5.own.alloc _) rfl (aw.new' _ _ _ _ skA) rfA (by exact dg _ rfl) mxA oA soA ?_);intro oa' oc' w7 hown7 hg7;go_wp2_with fail;go_roundg (g0-1)
      case rel=>exact Bi hkl HF.out hH5 (fun j hj=>by rw [ctr,if_pos hj]) hin5 hown7 hg7
      case measure=>have:=HF.out;omega
   .have t16:((k:Int)%16==0)=false:=soA;have hin5:JL w H g X Y key nonce l k oa oc xs (enc key (ctr nonce (k/16))) wr:=⟨hin.own,hin.cph,hin.x,hin.y.ofF fun j hj=>HY.out h16 j hj,hin.below⟩;clear hin;obtain ⟨w6,rfl⟩:∃w6:World,w6=wr:=⟨_,rfl⟩;have hy:=hin5.y.atF (show k%16<16 by omega) rfl;have hH5:H<=w6.heap.size:=(by have:=hin5.x.lt;omega);go_wp2_with (at_builtin;refine al rfl _ _ 22 rfl wY rfl (hin5.own.alloc _) rfl (aw.new' _ _ _ _ skA) rfA (by exact dg _ rfl) mxA oA soA ?_);intro oa' oc' w7 hown7 hg7;go_wp2_with fail;go_roundg (gk-1)
    case rel=>exact Bi hkl HF.out hH5 HX.out hin5 hown7 hg7
    case measure=>have:=HF.out;omega
  .have hf:=HF.out;have hlen:=HL.out;have tk:decide ((k:Int)<(len:Int))=false:=soA;obtain rfl:k=len:=oA;clear hf hxs hys hlen;go_wp2_with fail;go_ret2;refine ⟨oa,oc,rfl,?_,HH.out▸hin.below⟩;have e:=HL.out;rw [stm,e,<-HH.out];exact hin.own
end
end Go.Proofs.YtioigihakjlopaaGreat

import Derived.Test.YtioigihakjlopaaGreatVF20
namespace Go.Proofs.YtioigihakjlopaaGreat
open Go.Proofs.Tryz
set_option linter.unusedVariables false
set_option linter.unusedSimpArgs false
set_option maxHeartbeats 16000000
set_option maxRecDepth 100000
section
open Go.RowKit
attribute [local go_sem] dn dp dL bN
def Mc (w:World) (H:Nat) (a b:Nat->BitVec 8) (f:Nat) (i:Value) (wr:World):Prop:=
 ∃k:Nat,f+k=16/\i= .int .i64 (k:Int)/\Blk wr H (fA 16 (fun j=>if j<k then a j^^^b j else a j)) 169/\Blk wr (H+1) (fA 16 b) 169/\(∃z:Array Value,z.size=16/\Blk wr (H+2) z 169)/\Below H w wr
theorem sw (a b:Nat->BitVec 8) (w:World):
  Calls prog 193 #[.agg (fA 16 a),.agg (fA 16 b)] w fun e w'=>e= .returned (.agg (fA 16 (sx a b)))/\Below w.heap.size w w':=by
 go_enter func193,ntmps193;go_wp2_with fail;refine af (fun W0=>Blk W0 w.heap.size (fA 16 a) 169/\Blk W0 (w.heap.size+1) (fA 16 b) 169/\(∃z:Array Value,z.size=16/\Blk W0 (w.heap.size+2) z 169)/\Below w.heap.size w W0) ⟨Blk.new3 _ _ _ _ _,Blk.new3' _ _ _ _ _,⟨_,rfl,Blk.new3'' w #[.int .u8 0,.int .u8 0,.int .u8 0,.int .u8 0,.int .u8 0,.int .u8 0,.int .u8 0,.int .u8 0,.int .u8 0,.int .u8 0,.int .u8 0,.int .u8 0,.int .u8 0,.int .u8 0,.int .u8 0,.int .u8 0] _ _ _⟩,cL⟩ ?_;rintro w0 ⟨hA,hB,hZ,hb⟩;obtain ⟨H,hH⟩:=Le w.heap.size;rw [<-hH] at hA hB hZ hb⊢;have HH:=Hd hH;clear hH;go_loopg [5] 16 (Mc w H a b)
 case atStart=>exact ⟨0,oA,rfl,by simpa using hA,hB,hZ,hb⟩
 case round=>
  clear hA hB hZ hb;obtain ⟨k,hf,rfl,hA,hB,⟨z,hz,hZ⟩,hb⟩:=hrel;have HF:=Hd hf;clear hf;by_cases hlt:k<16
  .have tk:decide ((k:Int)<16)=true:=soA;go_wp2_with fail;have hkI:(k:Int)<16:=oA;have C1:∀W,Old wr.drew W->W.cell? ⟨H,k,none⟩=some (.int .u8 (B8 (a k))):=fun W h=>(hA.drew.old h).atF hlt skA;have C2:∀W,Old wr.drew W->W.cell? ⟨H+1,k,none⟩=some (.int .u8 (B8 (b k))):=fun W h=>(hB.drew.old h).atF hlt rfl;refine aj true Old Old.refl Old.trans (.step 0 (.step 1 (.step 2 (.step 3 (.step 4 (.step 5 (.step 6 (.step 7 (.step 8 (.step 9 .done)))))))))) krA krA cdA ?_
   repeat (first|refine tsA ?_|refine tqA ?_)
   have hAd:=hA.drew;have r3:=hAd.rule;have f3:=hAd.free;have ck3:=eE (fun j=>if j<k then a j^^^b j else a j) hlt;refine az rfl rfl rfA (fun K hK=> ?_);go_wp2_with fail;refine ap ?_;clear r3 f3 ck3;go_wp2_with fail;go_roundg (gk-1)
   case rel=>
    have hf:=HF.out;exact ⟨k+1,oA,gnA,(hAd.setF hlt (a k^^^b k)).ofF fun i _=>Wn (eY k (fun j=>a j^^^b j) a) i,hB.drew.other _ _ skA,⟨z,hz,hZ.drew.other _ _ skA⟩,hb.drew.setCell skA _⟩
   case measure=>have hf:=HF.out;omega
  .have hf:=HF.out;obtain rfl:k=16:=oA;have tk:decide (((16:Nat):Int)<16)=false:=skA;clear hf;have e:fA 16 (fun j=>if j<16 then a j^^^b j else a j)=fA 16 (sx a b):=tm fun i h=>(by rw [sx,nT _ h,if_pos h]);rw [e] at hA;clear e;go_wp2_with (first|refine am rfl 169 dU _ rfl rfl hA (aD _ _) ?_|refine aa rfl 169 dU (.tmp 4) _ (cells:=fA 16 (sx a b)) rfl rfl rfl hZ (aD _ _) hz (fj _ _) ?_);refine cv rfl dU rfl (hZ.setRow _) (aD _ _) rfl ⟨rfl,?_⟩;rw [HH.out] at hb⊢;exact ag hb oA _
theorem jX {P:Program} {ty:TypeId} {v:Value} (h:(P.info? ty).bind (·.zero)=some v) (W:World):(zeroValue ty).run P W= .ok v W:=by
 cases hq:P.info? ty with
 |none=>simp [hq] at h
 |some i=>
  have hz:i.zero=some v:=(by simpa [hq] using h);simp [zeroValue,typeInfo,hq,hz]
theorem AB:(Tryz.prog.info? 230).bind (·.zero)=some (.agg (fA 256 fun _=>0#8)):=by kernel_rfl
theorem rS:lR prog 230 256:=⟨⟨_,underlying230,rfl⟩,krA⟩
def rN:Nat->BitVec 8:=fun i=>bx (bn i)
def FP (w:World) (H:Nat) (f:Nat) (i:Value) (wr:World):Prop:=
 ∃k:Nat,f+k=256/\i= .int .i64 (k:Int)/\Blk wr (H+1) (fA 256 (fun j=>if j<k then rN j else 0#8)) 230/\(∃z:Array Value,z.size=256/\Blk wr H z 230)/\Below H w wr
theorem Ic (n:Int) (x:BitVec 8) (h:n=B8 x) (w:World):
  Calls prog 191 #[.int .u8 n] w fun e w'=>e= .returned (.int .u8 (B8 (bx x)))/\w=w':=by
 subst h;exact Et x w
theorem zy (w:World):
  Calls prog 181 #[] w fun e w'=>e= .returned (.agg (fA 256 rN))/\Below w.heap.size w w':=by
 have hzr:=jX AB;go_enter func181,ntmps181;go_wp2_with fail;have hA:=(Blk.new w (fA 256 fun _=>0#8) 230).alloc (.cells (fA 256 fun _=>0#8) 230);have hB:=Blk.new2' w (fA 256 fun _=>0#8) 230 (.cells (fA 256 fun _=>0#8) 230);have hb:Below w.heap.size w ((w.alloc (.cells (fA 256 fun _=>0#8) 230)).alloc (.cells (fA 256 fun _=>0#8) 230)):=cL;obtain ⟨H,hH⟩:=Le w.heap.size;rw [<-hH] at hA hB hb⊢;have HH:=Hd hH;clear hH hzr;go_loopg [2] 256 (FP w H)
 case atStart=>exact ⟨0,oA,rfl,by simpa using hB,⟨_,aD _ _,hA⟩,hb⟩
 case round=>
  clear hA hB hb;obtain ⟨k,hf,rfl,hB,⟨z,hz,hZ⟩,hb⟩:=hrel;have HF:=Hd hf;clear hf;by_cases hlt:k<256
  .have tk:decide ((k:Int)<256)=true:=soA;have hkI:(k:Int)<256:=oA;have r3:=hB.rule;have f3:=hB.free;have ck3:=eE (fun j=>if j<k then rN j else 0#8) hlt;go_wp2_with (go_at_call 191;refine (Ic _ (bn k) (oJ k hlt) _).mono ?_;rintro e w' ⟨rfl,rfl⟩);clear r3 f3 ck3;go_roundg (gk-1)
   case rel=>
    have hf:=HF.out;exact ⟨k+1,oA,gnA,(hB.setF hlt (bx (bn k))).ofF fun i _=>Wn (eY k rN fun _=>0#8) i,⟨z,hz,hZ.other _ _ skA⟩,hb.setCell skA _⟩
   case measure=>have hf:=HF.out;omega
  .have hf:=HF.out;obtain rfl:k=256:=oA;have tk:decide (((256:Nat):Int)<256)=false:=skA;clear hf;have e:fA 256 (fun j=>if j<256 then rN j else 0#8)=fA 256 rN:=tm fun i h=>(by rw [if_pos h]);rw [e] at hB;clear e;go_wp2_with (first|refine am rfl 230 rS _ rfl rfl hB (aD _ _) ?_|refine aa rfl 230 rS (.tmp 0) _ (cells:=fA 256 rN) rfl rfl rfl hZ (aD _ _) hz (fj _ _) ?_);refine cv rfl rS rfl (hZ.setRow _) (aD _ _) rfl ⟨rfl,?_⟩;rw [HH.out] at hb⊢;exact ag hb oA _
open Go.RowKit
attribute [local go_sem] dn dp dL bN
def MM (w:World) (H n:Nat) (m s:Nat->BitVec 8) (wr:World):Prop:=
 Blk wr H (fA 16 s) 169/\Blk wr (H+1) (fA 4 m) 235/\(∃z:Array Value,z.size=16/\Blk wr (H+2) z 169)/\Blk wr (H+3) (fA 16 (fun j=>if j<n then mxs m s j 4 else 0#8)) 169/\Below H w wr
def Mix1 (w:World) (H:Nat) (m s:Nat->BitVec 8) (f:Nat) (i:Value) (wr:World):Prop:=
 ∃c:Nat,f+c=4/\i= .int .i64 (c:Int)/\MM w H (4*c) m s wr
def Mix2 (w:World) (H c:Nat) (m s:Nat->BitVec 8) (f:Nat) (i:Value) (wr:World):Prop:=
 ∃r:Nat,f+r=4/\i= .int .i64 (r:Int)/\MM w H (4*c+r) m s wr
def Mix3 (w:World) (H c r:Nat) (m s:Nat->BitVec 8) (f:Nat) (i x:Value) (wr:World):Prop:=
 ∃k:Nat,f+k=4/\i= .int .i64 (k:Int)/\x= .int .u8 (B8 (mxs m s (4*c+r) k))/\MM w H (4*c+r) m s wr
theorem Lb (k r d:Nat) (hk:k<4) (hr:r<4) (hd:d=(k+4-r)%4):(IntKind.i64.wrap (IntKind.i64.wrap ((k:Int)-(r:Int))+4)).tmod 4=(d:Int):=by
 rw [VD ((k:Int)-(r:Int)) oA,VD _ oA,WJ oA];omega
theorem Em (m s:Nat->BitVec 8) (w:World):
  Calls prog 194 #[.agg (fA 16 s),.agg (fA 4 m)] w fun e w'=>e= .returned (.agg (fA 16 (mx m s)))/\Below w.heap.size w w':=by
 go_enter func194,ntmps194;go_wp2_with fail;refine af (fun W0=>MM w w.heap.size 0 m s W0) ⟨(Blk.new3 _ _ _ _ _).alloc _,(Blk.new3' _ _ _ _ _).alloc _,⟨fA 16 fun _=>0#8,aD _ _,(Blk.new3'' w (fA 16 fun _=>0#8) _ _ _).alloc _⟩,?_,cL⟩ ?_
 .have:=Blk.new (((w.alloc (.cells (fA 16 s) 169)).alloc (.cells (fA 4 m) 235)).alloc (.cells (fA 16 fun _=>0#8) 169)) (fA 16 fun _=>0#8) 169;simp at this;exact this.ofF fun i _=>by simp
 rintro w0 hI;obtain ⟨H,hH⟩:=Le w.heap.size;rw [<-hH] at hI⊢;have HH:=Hd hH;clear hH;go_loopg [6] 4 (Mix1 w H m s)
 case atStart=>exact ⟨0,oA,rfl,hI⟩
 case round=>
  clear hI;obtain ⟨c,hf,rfl,hI⟩:=hrel;by_cases hc:c<4
  .have tc:decide ((c:Int)<4)=true:=soA;have HF:=Hd hf;clear hf;obtain ⟨g0,rfl⟩:∃g:Nat,g=gk:=⟨_,rfl⟩;go_wp2_with fail;go_loopg [7,8,9] 4 (fun f i _ _ wr=>Mix2 w H c m s f i wr)
   case atStart=>exact ⟨0,oA,rfl,hI⟩
   case round=>
    clear hI;obtain ⟨r,hf,rfl,hI⟩:=hrel;by_cases hr:r<4
    .have tr:decide ((r:Int)<4)=true:=soA;have HF2:=Hd hf;clear hf;obtain ⟨g1,rfl⟩:∃g:Nat,g=gk:=⟨_,rfl⟩;go_wp2_with fail;go_loopg [9,8] 4 (Mix3 w H c r m s)
     case atStart=>exact ⟨0,oA,rfl,rfl,hI⟩
     case round=>
      clear hI;obtain ⟨k,hf,rfl,rfl,hI⟩:=hrel;by_cases hk:k<4
      .have tk:decide ((k:Int)<4)=true:=soA;have HF3:=Hd hf;clear hf;obtain ⟨hA,hM,⟨z,hz,hZ⟩,hO,hb⟩:=hI;obtain ⟨d,hd⟩:=Le ((k+4-r)%4);have hd4:d<4:=oA;have hx1:=Lb k r d hk hr hd;obtain ⟨p,hp⟩:=Le (4*c);obtain ⟨q,hq⟩:=Le (p+k);have hx2:IntKind.i64.wrap (4*(c:Int))=(p:Int):=(by rw [VD _ oA];omega);have hx3:IntKind.i64.wrap ((p:Int)+(k:Int))=(q:Int):=(by rw [VD _ oA];omega);have hd4':(d:Int)<4:=oA;have hck:(q:Int)<16:=oA;have C1:∀W,Old wr.drew W->W.cell? ⟨H+1,d,none⟩=some (.int .u8 (B8 (m d))):=fun W h=>(hM.drew.old h).atF hd4 rfl;have C2:∀W,Old wr.drew W->W.cell? ⟨H,q,none⟩=some (.int .u8 (B8 (s q))):=fun W h=>(hA.drew.old h).atF oA rfl;have HD:=Hd hd;have HP:=Hd hp;have HQ:=Hd hq;clear hd hp hq;go_wp2_with fail;refine aA (0::1::2::3::4::5::6::7::8::9::10::11::12::13::14::15::16::[]) krA krA cdA ?_
       repeat (first|refine lsA ?_|refine lqA ?_)
       refine bw rfl rfl rfA (fun K hK=> ?_);go_wp2_with fail;refine (rf (m d) (s q) _).mono ?_;rintro e w' ⟨rfl,rfl⟩;go_wp2_with fail;refine hK _ _ (Old.refl _) ?_;clear hK K
       repeat (first|refine lsA ?_|refine lqA ?_)
       refine bO ?_;go_wp2_with fail;go_roundg (gk-1)
       case rel=>
        have hf:=HF3.out;refine ⟨k+1,oA,gnA,?_,hA.drew,hM.drew,⟨z,hz,hZ.drew⟩,hO.drew,hb.drew⟩;rw [mxs,show (4*c+r)%4=r by omega,show (4*c+r)/4*4=4*c by omega,<-HD.out,<-HP.out,<-HQ.out]
       case measure=>have hf:=HF3.out;omega
      .obtain rfl:k=4:=oA;clear hf;obtain ⟨hA,hM,⟨z,hz,hZ⟩,hO,hb⟩:=hI;have r3:=hO.rule;have f3:=hO.free;have ck3:=eE (fun j=>if j<4*c+r then mxs m s j 4 else 0#8) (show 4*c+r<16 by omega);go_wp2_with fail;clear r3 f3 ck3;go_roundg (g1-1)
       case rel=>
        have hf:=HF2.out;refine ⟨r+1,oA,gnA,hA.other _ _ lA,hM.other _ _ lA,⟨z,hz,hZ.other _ _ lA⟩,?_,hb.setCell lA _⟩;exact (hO.setF oA (mxs m s (4*c+r) 4)).ofF fun i _=>Wn (eY (4*c+r) (fun j=>mxs m s j 4) fun _=>0#8) i
       case measure=>have hf:=HF2.out;omega
    .obtain rfl:r=4:=oA;clear hf;go_wp2_with fail;go_roundg (g0-1)
     case rel=>exact ⟨c+1,by have:=HF.out;omega,gnA,hI⟩
     case measure=>have hf:=HF.out;omega
  .obtain rfl:c=4:=oA;clear hf;obtain ⟨hA,hM,⟨z,hz,hZ⟩,hO,hb⟩:=hI;have e:fA 16 (fun j=>if j<4*4 then mxs m s j 4 else 0#8)=fA 16 (mx m s):=tm fun i h=>(by rw [mx,nT _ h,if_pos oA]);rw [e] at hO;clear e;go_wp2_with (first|refine am rfl 169 dU _ rfl rfl hO (aD _ _) ?_|refine aa rfl 169 dU (.tmp 4) _ (cells:=fA 16 (mx m s)) rfl rfl rfl hZ (aD _ _) hz (fj _ _) ?_);refine cv rfl dU rfl (hZ.setRow _) (aD _ _) rfl ⟨rfl,?_⟩;rw [HH.out] at hb⊢;exact ag hb oA _
open Go.RowKit
attribute [local go_sem] dn dp dL bN
def kw (key:Nat->BitVec 8) (j:Nat):BitVec 8:=rk key (j/16) (j%16)
theorem IJ (key:Nat->BitVec 8) (j:Nat) (h:j<16):kw key j=key j:=by
 rw [kw,show j/16=0 by omega,show j%16=j by omega,rk,nT _ h]
theorem Cm (key:Nat->BitVec 8) (R j:Nat) (h:j<16):kw key (16*(R+1)+j)=nkc (rc R) (rk key R) (j%4) (j/4):=by
 rw [kw,show (16*(R+1)+j)/16=R+1 by omega,show (16*(R+1)+j)%16=j by omega,rk,nk,nT _ h]
theorem Cn (key:Nat->BitVec 8) (R j:Nat) (h:j<16):kw key (16*R+j)=rk key R j:=by
 rw [kw,show (16*R+j)/16=R by omega,show (16*R+j)%16=j by omega]
def twd (key:Nat->BitVec 8) (i c:Nat):BitVec 8:=
 if i%4=0 then bx (kw key (4*(i-1)+(c+1)%4))^^^(if c=0 then rc (i/4-1) else 0#8) else kw key (4*(i-1)+c)
theorem Cl (key:Nat->BitVec 8) (i c:Nat) (hi:4<=i) (hc:c<4):kw key (4*i+c)=kw key (4*(i-4)+c)^^^twd key i c:=by
 obtain ⟨R,q,hq,rfl⟩:∃R q,q<4/\i=4*(R+1)+q:=⟨i/4-1,i%4,oA,oA⟩;have e1:kw key (4*(4*(R+1)+q)+c)=nkc (rc R) (rk key R) c q:=by
  rw [show 4*(4*(R+1)+q)+c=16*(R+1)+(4*q+c) by omega,Cm _ _ _ oA,show (4*q+c)%4=c by omega,show (4*q+c)/4=q by omega]
 have e2:kw key (4*(4*(R+1)+q-4)+c)=rk key R (4*q+c):=by
  rw [show 4*(4*(R+1)+q-4)+c=16*R+(4*q+c) by omega,Cn _ _ _ oA]
 rw [e1,e2];unfold twd;by_cases h:q=0
 .subst h;rw [if_pos oA,show (4*(R+1)+0)/4-1=R by omega,show 4*(4*(R+1)+0-1)+(c+1)%4=16*R+(12+(c+1)%4) by omega,Cn _ _ _ oA,nkc,nk0,BitVec.xor_comm,Nat.mul_zero,VS]
 .obtain ⟨p,rfl⟩:∃p,q=p+1:=⟨q-1,oA⟩;rw [if_neg oA,show 4*(4*(R+1)+(p+1)-1)+c=16*(R+1)+(4*p+c) by omega,Cm _ _ _ oA,show (4*p+c)%4=c by omega,show (4*p+c)/4=p by omega,nkc,BitVec.xor_comm]
theorem FR:(Tryz.prog.info? 231).bind (·.zero)=some (.agg (fA 176 fun _=>0#8)):=by kernel_rfl
theorem Kf:(Tryz.prog.info? 277).bind (·.zero)=some (.agg (fA 176 fun _=>0#8)):=by kernel_rfl
theorem FD:lR prog 231 176:=⟨⟨_,underlying231,rfl⟩,krA⟩
structure mM (w:World) (H:Nat) (key:Nat->BitVec 8) (f:Nat->BitVec 8) (wr:World):Prop where
 key:Blk wr H (fA 16 key) 169
 box:Blk wr (H+1) (fA 256 rN) 230
 out:∃z:Array Value,z.size=176/\Blk wr (H+2) z 231
 ws:Blk wr (H+3) (fA 176 f) 277
 below:Below H w wr
theorem mM.drew {w:World} {H:Nat} {key f:Nat->BitVec 8} {wr:World} (h:mM w H key f wr):mM w H key f wr.drew:=⟨h.key,h.box,h.out,h.ws,⟨h.below.os,h.below.tape,h.below.output,h.below.size,h.below.block⟩⟩
theorem mM.ofF {w:World} {H:Nat} {key f g:Nat->BitVec 8} {wr:World} (h:mM w H key f wr) (e:∀i,i<176->f i=g i):mM w H key g wr:=⟨h.key,h.box,h.out,h.ws.ofF e,h.below⟩
theorem mM.set {w:World} {H:Nat} {key f:Nat->BitVec 8} {wr:World} (h:mM w H key f wr) {j:Nat} (hj:j<176) (v:BitVec 8):mM w H key (fun i=>if i=j then v else f i) (wr.setCell ⟨H+3,j,none⟩ (.int .u8 (B8 v))):=
 ⟨h.key.other _ _ (by show H≠H+3;omega),h.box.other _ _ (by show H+1≠H+3;omega),by obtain ⟨z,hz,hZ⟩:=h.out;exact ⟨z,hz,hZ.other _ _ (by show H+2≠H+3;omega)⟩,h.ws.setF hj v,h.below.setCell (by show H<=H+3;omega) _⟩
theorem mM.far {w:World} {H:Nat} {key f:Nat->BitVec 8} {wr:World} (h:mM w H key f wr) {g:Nat} (hg:H+3<g) (i:Nat) (v:Value):mM w H key f (wr.setCell ⟨g,i,none⟩ v):=
 ⟨h.key.other _ _ (by show H≠g;omega),h.box.other _ _ (by show H+1≠g;omega),by obtain ⟨z,hz,hZ⟩:=h.out;exact ⟨z,hz,hZ.other _ _ (by show H+2≠g;omega)⟩,h.ws.other _ _ (by show H+3≠g;omega),h.below.setCell (by show H<=g;omega) _⟩
theorem mM.farRow {w:World} {H:Nat} {key f:Nat->BitVec 8} {wr:World} (h:mM w H key f wr) {g:Nat} (hg:H+3<g) (cs:Array Value):mM w H key f (wr.setRow g cs):=
 ⟨h.key.setRow_other _ _ oA,h.box.setRow_other _ _ oA,by obtain ⟨z,hz,hZ⟩:=h.out;exact ⟨z,hz,hZ.setRow_other _ _ oA⟩,h.ws.setRow_other _ _ oA,ag h.below oA _⟩
theorem mM.old {w:World} {H:Nat} {key f:Nat->BitVec 8} {wr wq:World} (h:mM w H key f wr) (hb:Below wr.heap.size wr wq):mM w H key f wq:=
 ⟨h.key.old hb,h.box.old hb,by obtain ⟨z,hz,hZ⟩:=h.out;exact ⟨z,hz,hZ.old hb⟩,h.ws.old hb,h.below.trans (hb.mono (by have:=h.key.lt;omega))⟩
def Ky1 (w:World) (H:Nat) (key:Nat->BitVec 8) (f:Nat) (i:Value) (wr:World):Prop:=
 ∃k:Nat,f+k=16/\i= .int .i64 (k:Int)/\mM w H key (fun j=>if j<k then key j else 0#8) wr
def Ky2 (w:World) (H:Nat) (key:Nat->BitVec 8) (f:Nat) (i r:Value) (wr:World):Prop:=
 ∃k:Nat,f+k=44/\4<=k/\i= .int .i64 (k:Int)/\r= .int .u8 (B8 (rc ((k-1)/4)))/\mM w H key (fun j=>if j<4*k then kw key j else 0#8) wr
def Ky3 (w:World) (H T n:Nat) (key:Nat->BitVec 8) (f:Nat) (i:Value) (wr:World):Prop:=
 ∃k:Nat,f+k=4/\i= .int .i64 (k:Int)/\mM w H key (fun j=>if j<4*n+k then kw key j else 0#8) wr/\Blk wr T (fA 4 (twd key n)) 235
def Ky4 (w:World) (H O:Nat) (key:Nat->BitVec 8) (f:Nat) (i:Value) (wr:World):Prop:=
 ∃k:Nat,f+k=176/\i= .int .i64 (k:Int)/\mM w H key (kw key) wr/\Blk wr O (fA 176 (fun j=>if j<k then kw key j else 0#8)) 231
theorem sI {G:World->Prop} {W:World} (F:World->Prop) (hF:F W) (h:∀W0,F W0->G W0):G W:=h W hF
theorem Hh (key:Nat->BitVec 8) (n m:Nat) (hm:m=n-1) (h:n%4=0):(#[.int .u8 (B8 (bx (kw key (4*m+1))^^^rc ((n-1)/4))),.int .u8 (B8 (bx (kw key (4*m+2)))),.int .u8 (B8 (bx (kw key (4*m+3)))),.int .u8 (B8 (bx (kw key (4*m+0))))]:Array Value)=fA 4 (twd key n):=by
 have e0:twd key n 0=bx (kw key (4*m+1))^^^rc ((n-1)/4):=(by rw [twd,if_pos h,if_pos rfl,hm,show n/4-1=(n-1)/4 by omega]);have e1:twd key n 1=bx (kw key (4*m+2)):=(by rw [twd,if_pos h,if_neg oA,hm,BitVec.xor_zero]);have e2:twd key n 2=bx (kw key (4*m+3)):=(by rw [twd,if_pos h,if_neg oA,hm,BitVec.xor_zero]);have e3:twd key n 3=bx (kw key (4*m+0)):=(by rw [twd,if_pos h,if_neg oA,hm,BitVec.xor_zero]);rw [<-e0,<-e1,<-e2,<-e3];rfl
theorem Ib (n:Nat) (hn:4<=n) (h:n%4=0):rc ((n+1-1)/4)=tim (rc ((n-1)/4)) 2#8:=by rw [show (n+1-1)/4=(n-1)/4+1 by omega,rc]
theorem Ia (n:Nat) (hn:4<=n) (h:¬n%4=0):rc ((n+1-1)/4)=rc ((n-1)/4):=by rw [show (n+1-1)/4=(n-1)/4 by omega]
theorem Bt (key:Nat->BitVec 8) (w:World):
  Calls prog 192 #[.agg (fA 16 key),.agg (fA 256 rN)] w fun e w'=>e= .returned (.agg (fA 176 (kw key)))/\Below w.heap.size w w':=by
 have hz1:=jX FR;have hz2:=jX Kf;go_enter func192,ntmps192;go_wp2_with fail;clear hz2;refine af (fun W0=>mM w w.heap.size key (fun _=>0#8) W0) ⟨(Blk.new3 _ _ _ _ _).alloc _,(Blk.new3' _ _ _ _ _).alloc _,⟨fA 176 fun _=>0#8,aD _ _,(Blk.new3'' w (fA 176 fun _=>0#8) _ _ _).alloc _⟩,?_,cL⟩ ?_
 .have:=Blk.new (((w.alloc (.cells (fA 16 key) 169)).alloc (.cells (fA 256 rN) 230)).alloc (.cells (fA 176 fun _=>0#8) 231)) (fA 176 fun _=>0#8) 277;simp at this;exact this
 rintro w0 hI;obtain ⟨H,hH⟩:=Le w.heap.size;rw [<-hH] at hI⊢;have HH:=Hd hH;clear hH;have HZ:=Hd hz1;clear hz1;go_loopg [6] 16 (Ky1 w H key)
 case atStart=>exact ⟨0,oA,rfl,hI⟩
 case round=>
  clear hI;obtain ⟨k,hf,rfl,hI⟩:=hrel;by_cases hk:k<16
  .have tk:decide ((k:Int)<16)=true:=soA;have HF:=Hd hf;clear hf;have hkI:(k:Int)<16:=oA;obtain ⟨p,hp⟩:=Le (k/4);obtain ⟨q,hq⟩:=Le (k%4);have hpI:IntKind.i64.wrap ((k:Int)/4)=(p:Int):=(by rw [VD _ oA];omega);have hqI:(k:Int).tmod 4=(q:Int):=(by rw [WJ oA];omega);have hp4:(p:Int)<44:=oA;have hq4:(q:Int)<4:=oA;have C1:∀W,Old wr.drew W->W.cell? ⟨H,k,none⟩=some (.int .u8 (B8 (key k))):=fun W h=>(hI.key.drew.old h).atF hk rfl;have HP:=Hd (show p*4+q=k by omega);clear hp hq;go_wp2_with fail;refine aj true Old Old.refl Old.trans (.step 0 (.step 1 (.step 2 (.step 3 (.step 4 (.step 5 (.step 6 (.step 7 (.step 8 (.step 9 .done)))))))))) krA krA cdA ?_
   repeat (first|refine tsA ?_|refine tqA ?_)
   have hd:=hI.ws.drew;have r3:=hd.rule;have f3:=hd.free;have ck3:=eE (fun j=>if j<k then key j else 0#8) (show p*4+q<176 by have:=HP.out;omega);refine az rfl rfl rfA (fun K hK=> ?_);go_wp2_with fail;refine ap ?_;clear r3 f3 ck3;go_wp2_with fail;go_roundg (gk-1)
   case rel=>
    have hf:=HF.out;refine ⟨k+1,oA,gnA,?_⟩;rw [HP.out];exact (hI.drew.set oA (key k)).ofF fun i _=>Wn (eY k key fun _=>0#8) i
   case measure=>have hf:=HF.out;omega
  .obtain rfl:k=16:=oA;clear hf;go_wp2_with fail;go_loopg [8,7] 40 (Ky2 w H key)
   case atStart=>exact ⟨4,oA,oA,rfl,rfl,hI.ofF fun j _=>by
    by_cases h:j<16
    .rw [if_pos h,if_pos oA,IJ _ _ h]
    .rw [if_neg h,if_neg oA]⟩
   case round=>
    clear hI;obtain ⟨n,hf,hn,rfl,rfl,hI⟩:=hrel;by_cases hn44:n<44
    .have tn:decide ((n:Int)<44)=true:=soA;have HF:=Hd hf;clear hf;obtain ⟨g0,rfl⟩:∃g:Nat,g=gk:=⟨_,rfl⟩;obtain ⟨m,hm⟩:=Le (n-1);obtain ⟨T,hTT⟩:=Le wr.heap.size;have hHT:H+3<T:=(by have:=hI.ws.lt;omega);have hnI:(n:Int)<44:=oA;have hn4I:(4:Int)<=(n:Int):=oA;have hnm:(n:Int)-1=(m:Int):=oA;have hmI:(m:Int)<44:=oA;have hw:=hI.ws;have hpart:((fA 176 fun j=>if j<4*n then kw key j else 0#8).toList.drop (m*4)).take 4=fL 4 fun j=>kw key (4*m+j):=by
      rw [wP _ oA];exact Jj fun j hj=>by rw [if_pos oA,Wi]
     have HPT:=Hd hpart;clear hpart;have hI1:=hI.old ((AT _ _).alloc (Lt _) (.cells (fA 4 fun _=>0#8) 235));have hT1:=Blk.new wr (fA 4 fun _=>0#8) 235;rw [<-hTT] at hT1;by_cases h4:n%4=0
     .have t4:((n:Int)%4==0)=true:=soA;have HM:=Hd hm;have H4:=Hd h4;clear h4 hm;go_upto_region 12 with (first|refine dk rfl 235 JZ _ rfl rfl hw HPT.out (dd _ _) ?_|refine aa rfl 235 JZ (.tmp 9) _ (cells:=fA 4 fun j=>kw key (4*m+j)) rfl rfl rfl (Blk.new _ _ _) (aD _ _) rfl (fj _ _) ?_);rw [<-hTT];refine af (fun W0=>mM w H key (fun j=>if j<4*n then kw key j else 0#8) W0/\Blk W0 T (fA 4 fun j=>kw key (4*m+j)) 235) ⟨hI1.farRow hHT _,hT1.setRow _⟩ ?_;clear hI hI1 hT1 hw HPT hTT;rintro w5 ⟨hI,hT⟩;have HL:=Hd (Hh key n m HM.out H4.out);obtain ⟨y,hy⟩:∃y:Nat->BitVec 8,y=fun j=>kw key (4*m+j):=⟨_,rfl⟩;rw [<-hy] at hT;have HY:=Hd hy;clear hy;have C0:∀W,Old w5.drew W->W.cell? ⟨T,0,none⟩=some (.int .u8 (B8 (y 0))):=fun W h=>(hT.drew.old h).atF oA rfl;have C1:∀W,Old w5.drew W->W.cell? ⟨T,1,none⟩=some (.int .u8 (B8 (y 1))):=fun W h=>(hT.drew.old h).atF oA rfl;have C2:∀W,Old w5.drew W->W.cell? ⟨T,2,none⟩=some (.int .u8 (B8 (y 2))):=fun W h=>(hT.drew.old h).atF oA rfl;have C3:∀W,Old w5.drew W->W.cell? ⟨T,3,none⟩=some (.int .u8 (B8 (y 3))):=fun W h=>(hT.drew.old h).atF oA rfl;have D0:∀(x:BitVec 8) W,Old w5.drew W->W.cell? ⟨H+1,x.toNat,none⟩=some (.int .u8 (B8 (bx x))):=fun x W h=>(hI.box.drew.old h).atF x.isLt (by rw [rN,mF]);have l0:=jV (y 0);have l1:=jV (y 1);have l2:=jV (y 2);have l3:=jV (y 3);have u0:=qA (y 0);have u1:=qA (y 1);have u2:=qA (y 2);have u3:=qA (y 3);have n0:=gu (y 0);have n1:=gu (y 1);have n2:=gu (y 2);have n3:=gu (y 3);refine aj true Old Old.refl Old.trans (.step 0 (.step 1 (.step 2 (.step 3 (.step 4 (.step 5 (.step 6 (.step 7 (.step 8 (.step 9 (.step 10 (.step 11 (.step 12 (.step 13 (.step 14 (.step 15 (.step 16 (.step 17 (.step 18 (.step 19 .done)))))))))))))))))))) krA krA cdA ?_
      repeat (first|refine tsA ?_|refine tqA ?_)
      refine az rfl rfl rfA (fun K hK=> ?_);refine bf 235 JZ _ _ rfl rfl rfl hT.drew rfl (by rw [aD];omega) rfl ?_;refine hK _ _ ?_;clear hK K C0 C1 C2 C3 D0 l0 l1 l2 l3 u0 u1 u2 u3 n0 n1 n2 n3;refine ap ?_;rw [mV _ _ (by rw [aD];rfl),HY.out,HL.out];refine sI (fun W0=>mM w H key (fun j=>if j<4*n then kw key j else 0#8) W0/\Blk W0 T (fA 4 (twd key n)) 235) ⟨hI.drew.farRow hHT _,hT.drew.setRow _⟩ ?_;clear hI hT HL;rintro w7 ⟨hI,hT⟩;go_wp2_with fail;refine (pC (rc ((n-1)/4)) 2#8 2 rfl _).mono ?_;rintro e w' ⟨rfl,rfl⟩;go_wp2_with fail;refine af (fun W0=>mM w H key (fun j=>if j<4*n then kw key j else 0#8) W0/\Blk W0 T (fA 4 (twd key n)) 235) ⟨hI,hT⟩ ?_;clear hI hT;rintro w6 ⟨hI,hT⟩;go_loopg [10] 4 (Ky3 w H T n key)
      case atStart=>exact ⟨0,oA,rfl,hI,hT⟩
      case round=>
       clear hI hT;obtain ⟨k,hf,rfl,hI,hT⟩:=hrel;by_cases hk:k<4
       .have tk:decide ((k:Int)<4)=true:=soA;have hkI:(k:Int)<4:=oA;have HF3:=Hd hf;clear hf;obtain ⟨u,hu⟩:=Le (n-4);have hu1:IntKind.i64.wrap ((n:Int)-4)=(u:Int):=(by rw [VD _ oA];omega);have huI:(u:Int)<44:=oA;have C1:∀W,Old wr.drew W->W.cell? ⟨H+1+1+1,u*4+k,none⟩=some (.int .u8 (B8 (kw key (u*4+k)))):=fun W h=>(hI.ws.drew.old h).atF oA (by rw [if_pos oA]);have C2:∀W,Old wr.drew W->W.cell? ⟨T,k,none⟩=some (.int .u8 (B8 (twd key n k))):=fun W h=>(hT.drew.old h).atF hk rfl;have hE:kw key (u*4+k)^^^twd key n k=kw key (n*4+k):=(by rw [hu,Wi,<-Cl key n k hn hk,Wi]);have HE:=Hd hE;clear hu hE;go_wp2_with fail;refine aj true Old Old.refl Old.trans (.step 0 (.step 1 (.step 2 (.step 3 (.step 4 (.step 5 (.step 6 (.step 7 (.step 8 (.step 9 (.step 10 (.step 11 (.step 12 (.step 13 (.step 14 .done))))))))))))))) krA krA cdA ?_
        repeat (first|refine tsA ?_|refine tqA ?_)
        have hd:=hI.ws.drew;have r3:=hd.rule;have f3:=hd.free;have ck3:=eE (fun j=>if j<4*n+k then kw key j else 0#8) (show n*4+k<176 by omega);refine az rfl rfl rfA (fun K hK=> ?_);go_wp2_with fail;refine ap ?_;clear r3 f3 ck3;go_wp2_with fail;go_roundg (gk-1)
        case rel=>
         have hf:=HF3.out;refine ⟨k+1,oA,gnA,?_,hT.drew.other _ _ (by show T≠H+3;omega)⟩;rw [HE.out,Wi n 4];exact (hI.drew.set oA (kw key (4*n+k))).ofF fun i _=>Wn (eY (4*n+k) (kw key) fun _=>0#8) i
        case measure=>have hf:=HF3.out;omega
       .obtain rfl:k=4:=oA;clear hf;go_wp2_with fail;go_roundg (g0-1)
        case rel=>
         have hf:=HF.out;exact ⟨n+1,oA,oA,gnA,by rw [Ib n hn H4.out],hI⟩
        case measure=>have hf:=HF.out;omega
     .have t4:((n:Int)%4==0)=false:=soA;have HM:=Hd hm;have H4:=Hd h4;clear h4 hm;have hlw:(fA 4 fun j=>kw key (4*m+j))=fA 4 (twd key n):=tm fun j _=>(by rw [twd,if_neg H4.out,HM.out]);have HLW:=Hd hlw;clear hlw;go_wp2_with (first|refine dk rfl 235 JZ _ rfl rfl hw HPT.out (dd _ _) ?_|refine aa rfl 235 JZ (.tmp 9) _ (cells:=fA 4 fun j=>kw key (4*m+j)) rfl rfl rfl (Blk.new _ _ _) (aD _ _) rfl (fj _ _) ?_);rw [<-hTT];refine af (fun W0=>mM w H key (fun j=>if j<4*n then kw key j else 0#8) W0/\Blk W0 T (fA 4 (twd key n)) 235) ⟨hI1.farRow hHT _,by rw [<-HLW.out];exact hT1.setRow _⟩ ?_;clear hI1 hT1 hw HPT hTT HLW;clear hI;rintro w6 ⟨hI,hT⟩;go_loopg [10] 4 (Ky3 w H T n key)
      case atStart=>exact ⟨0,oA,rfl,hI,hT⟩
      case round=>
       clear hI hT;obtain ⟨k,hf,rfl,hI,hT⟩:=hrel;by_cases hk:k<4
       .have tk:decide ((k:Int)<4)=true:=soA;have hkI:(k:Int)<4:=oA;have HF3:=Hd hf;clear hf;obtain ⟨u,hu⟩:=Le (n-4);have hu1:IntKind.i64.wrap ((n:Int)-4)=(u:Int):=(by rw [VD _ oA];omega);have huI:(u:Int)<44:=oA;have C1:∀W,Old wr.drew W->W.cell? ⟨H+1+1+1,u*4+k,none⟩=some (.int .u8 (B8 (kw key (u*4+k)))):=fun W h=>(hI.ws.drew.old h).atF oA (by rw [if_pos oA]);have C2:∀W,Old wr.drew W->W.cell? ⟨T,k,none⟩=some (.int .u8 (B8 (twd key n k))):=fun W h=>(hT.drew.old h).atF hk rfl;have hE:kw key (u*4+k)^^^twd key n k=kw key (n*4+k):=(by rw [hu,Wi,<-Cl key n k hn hk,Wi]);have HE:=Hd hE;clear hu hE;go_wp2_with fail;refine aj true Old Old.refl Old.trans (.step 0 (.step 1 (.step 2 (.step 3 (.step 4 (.step 5 (.step 6 (.step 7 (.step 8 (.step 9 (.step 10 (.step 11 (.step 12 (.step 13 (.step 14 .done))))))))))))))) krA krA cdA ?_
        repeat (first|refine tsA ?_|refine tqA ?_)
        have hd:=hI.ws.drew;have r3:=hd.rule;have f3:=hd.free;have ck3:=eE (fun j=>if j<4*n+k then kw key j else 0#8) (show n*4+k<176 by omega);refine az rfl rfl rfA (fun K hK=> ?_);go_wp2_with fail;refine ap ?_;clear r3 f3 ck3;go_wp2_with fail;go_roundg (gk-1)
        case rel=>
         have hf:=HF3.out;refine ⟨k+1,oA,gnA,?_,hT.drew.other _ _ (by show T≠H+3;omega)⟩;rw [HE.out,Wi n 4];exact (hI.drew.set oA (kw key (4*n+k))).ofF fun i _=>Wn (eY (4*n+k) (kw key) fun _=>0#8) i
        case measure=>have hf:=HF3.out;omega
       .obtain rfl:k=4:=oA;clear hf;go_wp2_with fail;go_roundg (g0-1)
        case rel=>
         have hf:=HF.out;exact ⟨n+1,oA,oA,gnA,by rw [Ia n hn H4.out],hI⟩
        case measure=>have hf:=HF.out;omega
    .obtain rfl:n=44:=oA;have tn:decide (((44:Nat):Int)<44)=false:=skA;clear hf;have hz1:=HZ.out;go_wp2_with fail;clear hz1;obtain ⟨O,hO⟩:=Le wr.heap.size;have hHO:H+3<O:=(by have:=hI.ws.lt;omega);refine af (fun W0=>mM w H key (kw key) W0/\Blk W0 O (fA 176 fun _=>0#8) 231) ⟨(hI.ofF (g:=kw key) fun i hi=>by rw [if_pos oA]).old ((AT _ _).alloc (Lt _) _),by rw [hO];exact Blk.new _ _ _⟩ ?_;rw [<-hO];clear hI hO;rintro w8 ⟨hI,hT⟩;go_loopg [12] 176 (Ky4 w H O key)
     case atStart=>exact ⟨0,oA,rfl,hI,by simpa using hT⟩
     case round=>
      clear hI hT;obtain ⟨k,hf,rfl,hI,hT⟩:=hrel;by_cases hk:k<176
      .have tk:decide ((k:Int)<176)=true:=soA;have HF:=Hd hf;clear hf;obtain ⟨p,hp⟩:=Le (k/16);obtain ⟨q,hq⟩:=Le (k%16);obtain ⟨p',hp'⟩:=Le (k/4);obtain ⟨q',hq'⟩:=Le (k%4);have e1:IntKind.i64.wrap ((k:Int)/16)=(p:Int):=(by rw [VD _ oA];omega);have e2:(k:Int).tmod 16=(q:Int):=(by rw [WJ oA];omega);have e3:IntKind.i64.wrap ((k:Int)/4)=(p':Int):=(by rw [VD _ oA];omega);have e4:(k:Int).tmod 4=(q':Int):=(by rw [WJ oA];omega);have i1:(p:Int)<11:=oA;have i2:(q:Int)<16:=oA;have i3:(p':Int)<44:=oA;have i4:(q':Int)<4:=oA;have HP:=Hd (show p*16+q=k by omega);have HP':=Hd (show p'*4+q'=k by omega);clear hp hq hp' hq';have C1:∀W,Old wr.drew W->W.cell? ⟨H+1+1+1,p'*4+q',none⟩=some (.int .u8 (B8 (kw key k))):=fun W h=>(hI.ws.drew.old h).atF (by have:=HP'.out;omega) (by rw [HP'.out]);go_wp2_with fail;refine aj true Old Old.refl Old.trans (.step 0 (.step 1 (.step 2 (.step 3 (.step 4 (.step 5 (.step 6 (.step 7 (.step 8 (.step 9 (.step 10 (.step 11 (.step 12 (.step 13 .done)))))))))))))) krA krA cdA ?_
       repeat (first|refine tsA ?_|refine tqA ?_)
       have hd:=hT.drew;have r3:=hd.rule;have f3:=hd.free;have ck3:=eE (fun j=>if j<k then kw key j else 0#8) (show p*16+q<176 by have:=HP.out;omega);refine az rfl rfl rfA (fun K hK=> ?_);go_wp2_with fail;refine ap ?_;clear r3 f3 ck3;go_wp2_with fail;go_roundg (gk-1)
       case rel=>
        have hf:=HF.out;refine ⟨k+1,oA,gnA,hI.drew.far hHO _ _,?_⟩;rw [HP.out];exact (hd.setF hk (kw key k)).ofF fun i _=>Wn (eY k (kw key) fun _=>0#8) i
       case measure=>have hf:=HF.out;omega
      .obtain rfl:k=176:=oA;have tk:decide (((176:Nat):Int)<176)=false:=skA;clear hf;have hT':=hT.ofF (t:=kw key) fun i h=>(by rw [if_pos h]);obtain ⟨z,hz,hZ⟩:=hI.out;have hb:=hI.below;clear hT hI;go_wp2_with (first|refine am rfl 231 FD _ rfl rfl hT' (aD _ _) ?_|refine aa rfl 231 FD (.tmp 4) _ (cells:=fA 176 (kw key)) rfl rfl rfl hZ (aD _ _) hz (fj _ _) ?_);refine cv rfl FD rfl (hZ.setRow _) (aD _ _) rfl ⟨rfl,?_⟩;rw [HH.out] at hb⊢;exact ag hb oA _
end
end Go.Proofs.YtioigihakjlopaaGreat

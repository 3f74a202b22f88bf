import Derived.Test.YtioigihakjlopaaGreatVR09
import Derived.Lib.BufferMore
namespace Go.Proofs.YtioigihakjlopaaGreat
open Go.Proofs.Tryz
set_option linter.unusedVariables false
set_option linter.unusedSimpArgs false
set_option maxHeartbeats 16000000
set_option maxRecDepth 100000
section
open Go.RowKit
attribute [local go_sem] dD dE dV cG
def Nw (w:As) (H:Nat) (a b:Nat->BitVec 8) (f:Nat) (i:Value) (wr:As):Prop:=
 ∃k:Nat,f+k=16/\i= .int .i64 (k:Int)/\Blk wr H (fA 16 (fun j=>if j<k then a j^^^b j else a j)) 169/\Blk wr (H+1) (fA 16 b) 169/\(∃z:AS,z.size=16/\Blk wr (H+2) z 169)/\Below H w wr
theorem tH (a b:Nat->BitVec 8) (w:As):
  Calls prog 193 #[.agg (fA 16 a),.agg (fA 16 b)] w fun e w'=>e= .returned (.agg (fA 16 (sx a b)))/\Below w.heap.size w w':=by
 go_enter func193,ntmps193;go_wp2_with fail;refine ag (fun I=>Blk I w.heap.size (fA 16 a) 169/\Blk I (w.heap.size+1) (fA 16 b) 169/\(∃z:AS,z.size=16/\Blk I (w.heap.size+2) z 169)/\Below w.heap.size w I) ⟨Blk.new3 _ _ _ _ _,Blk.new3' _ _ _ _ _,⟨_,rfl,Blk.new3'' w #[.int .u8 0,.int .u8 0,.int .u8 0,.int .u8 0,.int .u8 0,.int .u8 0,.int .u8 0,.int .u8 0,.int .u8 0,.int .u8 0,.int .u8 0,.int .u8 0,.int .u8 0,.int .u8 0,.int .u8 0,.int .u8 0] _ _ _⟩,cL⟩ ?_;rintro w0 ⟨A,E,C,D⟩;obtain ⟨H,L⟩:=At w.heap.size;rw [<-L] at A E C D⊢;have P:=Hd L;clear L;go_loopg [5] 16 (Nw w H a b)
 case atStart=>exact ⟨0,oA,rfl,by simpa using A,E,C,D⟩
 case round=>
  clear A E C D;obtain ⟨k,F,rfl,A,E,⟨z,N,C⟩,D⟩:=hrel;have M:=Hd F;clear F;by_cases G:k<16
  .have R:decide ((k:Int)<16)=true:=soA;go_wp2_with fail;have T:(k:Int)<16:=oA;have U:∀W,Old wr.drew W->W.cell? ⟨H,k,none⟩=some (.int .u8 (B8 (a k))):=fun W h=>(A.drew.old h).atF G skA;have V:∀W,Old wr.drew W->W.cell? ⟨H+1,k,none⟩=some (.int .u8 (B8 (b k))):=fun W h=>(E.drew.old h).atF G rfl;refine ah true Old Old.refl Old.trans (.step 0 (.step 1 (.step 2 (.step 3 (.step 4 (.step 5 (.step 6 (.step 7 (.step 8 (.step 9 .done)))))))))) krA krA cdA ?_
   repeat refine txA ?_
   have J:=A.drew;have S:=J.rule;have f3:=J.free;have O:=eT (fun j=>if j<k then a j^^^b j else a j) G;refine az rfl rfl rfA (fun K X=> ?_);go_wp2_with fail;refine aq ?_;clear S f3 O;go_wp2_with fail;go_roundg (gk-1)
   case rel=>
    have F:=M.out;exact ⟨k+1,oA,gnA,(J.setF G (a k^^^b k)).ofF fun i _=>Wv (ft k (fun j=>a j^^^b j) a) i,E.drew.other _ _ skA,⟨z,N,C.drew.other _ _ skA⟩,D.drew.setCell skA _⟩
   case measure=>have F:=M.out;omega
  .have F:=M.out;obtain rfl:k=16:=oA;have R:decide (((16:Nat):Int)<16)=false:=skA;clear F;have e:fA 16 (fun j=>if j<16 then a j^^^b j else a j)=fA 16 (sx a b):=uz fun i h=>(by rw [sx,oL _ h,Vz h]);rw [e] at A;clear e;go_wp2_with (first|refine ap rfl 169 ee _ rfl rfl A (aH _ _) ?_|refine ae rfl 169 ee (.tmp 4) _ (cells:=fA 16 (sx a b)) rfl rfl rfl C (aH _ _) N (fK _ _) ?_);refine cT rfl ee rfl (C.setRow _) (aH _ _) rfl ⟨rfl,?_⟩;rw [P.out] at D⊢;exact ak D oA _
theorem kM {P:Program} {ty:TypeId} {v:Value} (h:(P.info? ty).bind (·.zero)=some v) (W:As):(zeroValue ty).run P W= .ok v W:=by
 cases A:P.info? ty with
 |none=>simp [A] at h
 |some i=>
  have C:i.zero=some v:=(by simpa [A] using h);simp [zeroValue,typeInfo,A,C]
theorem BJ:(Tryz.prog.info? 230).bind (·.zero)=some (.agg (fA 256 fun _=>0#8)):=by kernel_rfl
theorem sV:lY prog 230 256:=⟨⟨_,underlying230,rfl⟩,krA⟩
def sO:Nat->BitVec 8:=fun i=>bx (bn i)
def GY (w:As) (H:Nat) (f:Nat) (i:Value) (wr:As):Prop:=
 ∃k:Nat,f+k=256/\i= .int .i64 (k:Int)/\Blk wr (H+1) (fA 256 (fun j=>if j<k then sO j else 0#8)) 230/\(∃z:AS,z.size=256/\Blk wr H z 230)/\Below H w wr
theorem Jp (n:Int) (x:BitVec 8) (h:n=B8 x) (w:As):
  Calls prog 191 #[.int .u8 n] w fun e w'=>e= .returned (.int .u8 (B8 (bx x)))/\w=w':=by
 subst h;exact FF x w
theorem AD (w:As):
  Calls prog 181 #[] w fun e w'=>e= .returned (.agg (fA 256 sO))/\Below w.heap.size w w':=by
 have M:=kM BJ;go_enter func181,ntmps181;go_wp2_with fail;have F:=(Blk.new w (fA 256 fun _=>0#8) 230).alloc (.cells (fA 256 fun _=>0#8) 230);have A:=Blk.new2' w (fA 256 fun _=>0#8) 230 (.cells (fA 256 fun _=>0#8) 230);have C:Below w.heap.size w ((w.alloc (.cells (fA 256 fun _=>0#8) 230)).alloc (.cells (fA 256 fun _=>0#8) 230)):=cL;obtain ⟨H,G⟩:=At w.heap.size;rw [<-G] at F A C⊢;have O:=Hd G;clear G M;go_loopg [2] 256 (GY w H)
 case atStart=>exact ⟨0,oA,rfl,by simpa using A,⟨_,aH _ _,F⟩,C⟩
 case round=>
  clear F A C;obtain ⟨k,D,rfl,A,⟨z,L,I⟩,C⟩:=hrel;have J:=Hd D;clear D;by_cases E:k<256
  .have P:decide ((k:Int)<256)=true:=soA;have S:(k:Int)<256:=oA;have R:=A.rule;have f3:=A.free;have N:=eT (fun j=>if j<k then sO j else 0#8) E;go_wp2_with (go_at_call 191;refine (Jp _ (bn k) (pA k E) _).mono ?_;rintro e w' ⟨rfl,rfl⟩);clear R f3 N;go_roundg (gk-1)
   case rel=>
    have D:=J.out;exact ⟨k+1,oA,gnA,(A.setF E (bx (bn k))).ofF fun i _=>Wv (ft k sO fun _=>0#8) i,⟨z,L,I.other _ _ skA⟩,C.setCell skA _⟩
   case measure=>have D:=J.out;omega
  .have D:=J.out;obtain rfl:k=256:=oA;have P:decide (((256:Nat):Int)<256)=false:=skA;clear D;have e:fA 256 (fun j=>if j<256 then sO j else 0#8)=fA 256 sO:=uz fun i h=>(by rw [Vz h]);rw [e] at A;clear e;go_wp2_with (first|refine ap rfl 230 sV _ rfl rfl A (aH _ _) ?_|refine ae rfl 230 sV (.tmp 0) _ (cells:=fA 256 sO) rfl rfl rfl I (aH _ _) L (fK _ _) ?_);refine cT rfl sV rfl (I.setRow _) (aH _ _) rfl ⟨rfl,?_⟩;rw [O.out] at C⊢;exact ak C oA _
open Go.RowKit
attribute [local go_sem] dD dE dV cG
def Og (w:As) (H n:Nat) (m s:Nat->BitVec 8) (wr:As):Prop:=
 Blk wr H (fA 16 s) 169/\Blk wr (H+1) (fA 4 m) 235/\(∃z:AS,z.size=16/\Blk wr (H+2) z 169)/\Blk wr (H+3) (fA 16 (fun j=>if j<n then mxs m s j 4 else 0#8)) 169/\Below H w wr
def Mix1 (w:As) (H:Nat) (m s:Nat->BitVec 8) (f:Nat) (i:Value) (wr:As):Prop:=
 ∃c:Nat,f+c=4/\i= .int .i64 (c:Int)/\Og w H (4*c) m s wr
def Mix2 (w:As) (H c:Nat) (m s:Nat->BitVec 8) (f:Nat) (i:Value) (wr:As):Prop:=
 ∃r:Nat,f+r=4/\i= .int .i64 (r:Int)/\Og w H (4*c+r) m s wr
def Mix3 (w:As) (H c r:Nat) (m s:Nat->BitVec 8) (f:Nat) (i x:Value) (wr:As):Prop:=
 ∃k:Nat,f+k=4/\i= .int .i64 (k:Int)/\x= .int .u8 (B8 (mxs m s (4*c+r) k))/\Og w H (4*c+r) m s wr
theorem Mz (k r d:Nat) (A:k<4) (C:r<4) (D:d=(k+4-r)%4):(IntKind.i64.wrap (IntKind.i64.wrap ((k:Int)-(r:Int))+4)).tmod 4=(d:Int):=by
 rw [VD ((k:Int)-(r:Int)) oA,VD _ oA,Wg oA];omega
theorem FA (m s:Nat->BitVec 8) (w:As):
  Calls prog 194 #[.agg (fA 16 s),.agg (fA 4 m)] w fun e w'=>e= .returned (.agg (fA 16 (mx m s)))/\Below w.heap.size w w':=by
 go_enter func194,ntmps194;go_wp2_with fail;refine ag (fun X=>Og w w.heap.size 0 m s X) ⟨(Blk.new3 _ _ _ _ _).alloc _,(Blk.new3' _ _ _ _ _).alloc _,⟨fA 16 fun _=>0#8,aH _ _,(Blk.new3'' w (fA 16 fun _=>0#8) _ _ _).alloc _⟩,?_,cL⟩ ?_
 .have:=Blk.new (((w.alloc (.cells (fA 16 s) 169)).alloc (.cells (fA 4 m) 235)).alloc (.cells (fA 16 fun _=>0#8) 169)) (fA 16 fun _=>0#8) 169;simp at this;exact this.ofF fun i _=>by simp
 rintro w0 C;obtain ⟨H,L⟩:=At w.heap.size;rw [<-L] at C⊢;have Y:=Hd L;clear L;go_loopg [6] 4 (Mix1 w H m s)
 case atStart=>exact ⟨0,oA,rfl,C⟩
 case round=>
  clear C;obtain ⟨c,A,rfl,C⟩:=hrel;by_cases hc:c<4
  .have tc:decide ((c:Int)<4)=true:=soA;have P:=Hd A;clear A;obtain ⟨Z,rfl⟩:∃g:Nat,g=gk:=⟨_,rfl⟩;go_wp2_with fail;go_loopg [7,8,9] 4 (fun f i _ _ wr=>Mix2 w H c m s f i wr)
   case atStart=>exact ⟨0,oA,rfl,C⟩
   case round=>
    clear C;obtain ⟨r,A,rfl,C⟩:=hrel;by_cases b:r<4
    .have tr:decide ((r:Int)<4)=true:=soA;have N:=Hd A;clear A;obtain ⟨n,rfl⟩:∃g:Nat,g=gk:=⟨_,rfl⟩;go_wp2_with fail;go_loopg [9,8] 4 (Mix3 w H c r m s)
     case atStart=>exact ⟨0,oA,rfl,rfl,C⟩
     case round=>
      clear C;obtain ⟨k,A,rfl,rfl,C⟩:=hrel;by_cases o:k<4
      .have tk:decide ((k:Int)<4)=true:=soA;have O:=Hd A;clear A;obtain ⟨G,I,⟨z,J,E⟩,D,F⟩:=C;obtain ⟨d,M⟩:=At ((k+4-r)%4);have U:d<4:=oA;have A1:=Mz k r d o b M;obtain ⟨p,R⟩:=At (4*c);obtain ⟨q,S⟩:=At (p+k);have A2:IntKind.i64.wrap (4*(c:Int))=(p:Int):=(by rw [VD _ oA];omega);have A3:IntKind.i64.wrap ((p:Int)+(k:Int))=(q:Int):=(by rw [VD _ oA];omega);have A0:(d:Int)<4:=oA;have A4:(q:Int)<16:=oA;have C1:∀W,Old wr.drew W->W.cell? ⟨H+1,d,none⟩=some (.int .u8 (B8 (m d))):=fun W h=>(I.drew.old h).atF U rfl;have C2:∀W,Old wr.drew W->W.cell? ⟨H,q,none⟩=some (.int .u8 (B8 (s q))):=fun W h=>(G.drew.old h).atF oA rfl;have t:=Hd M;have y:=Hd R;have HQ:=Hd S;clear M R S;go_wp2_with fail;refine aB (0::1::2::3::4::5::6::7::8::9::10::11::12::13::14::15::16::[]) krA krA cdA ?_
       repeat refine lxA ?_
       refine bh rfl rfl rfA (fun K T=> ?_);go_wp2_with fail;refine (rZ (m d) (s q) _).mono ?_;rintro e w' ⟨rfl,rfl⟩;go_wp2_with fail;refine T _ _ (Old.refl _) ?_;clear T K
       repeat refine lxA ?_
       refine bJ ?_;go_wp2_with fail;go_roundg (gk-1)
       case rel=>
        have A:=O.out;refine ⟨k+1,oA,gnA,?_,G.drew,I.drew,⟨z,J,E.drew⟩,D.drew,F.drew⟩;rw [mxs,show (4*c+r)%4=r by omega,show (4*c+r)/4*4=4*c by omega,<-t.out,<-y.out,<-HQ.out]
       case measure=>have A:=O.out;omega
      .obtain rfl:k=4:=oA;clear A;obtain ⟨G,I,⟨z,J,E⟩,D,F⟩:=C;have r3:=D.rule;have f3:=D.free;have V:=eT (fun j=>if j<4*c+r then mxs m s j 4 else 0#8) (show 4*c+r<16 by omega);go_wp2_with fail;clear r3 f3 V;go_roundg (n-1)
       case rel=>
        have A:=N.out;refine ⟨r+1,oA,gnA,G.other _ _ lA,I.other _ _ lA,⟨z,J,E.other _ _ lA⟩,?_,F.setCell lA _⟩;exact (D.setF oA (mxs m s (4*c+r) 4)).ofF fun i _=>Wv (ft (4*c+r) (fun j=>mxs m s j 4) fun _=>0#8) i
       case measure=>have A:=N.out;omega
    .obtain rfl:r=4:=oA;clear A;go_wp2_with fail;go_roundg (Z-1)
     case rel=>exact ⟨c+1,by have:=P.out;omega,gnA,C⟩
     case measure=>have A:=P.out;omega
  .obtain rfl:c=4:=oA;clear A;obtain ⟨G,I,⟨z,J,E⟩,D,F⟩:=C;have e:fA 16 (fun j=>if j<4*4 then mxs m s j 4 else 0#8)=fA 16 (mx m s):=uz fun i h=>(by rw [mx,oL _ h,Vz oA]);rw [e] at D;clear e;go_wp2_with (first|refine ap rfl 169 ee _ rfl rfl D (aH _ _) ?_|refine ae rfl 169 ee (.tmp 4) _ (cells:=fA 16 (mx m s)) rfl rfl rfl E (aH _ _) J (fK _ _) ?_);refine cT rfl ee rfl (E.setRow _) (aH _ _) rfl ⟨rfl,?_⟩;rw [Y.out] at F⊢;exact ak F oA _
open Go.RowKit
attribute [local go_sem] dD dE dV cG
def kw (key:Nat->BitVec 8) (j:Nat):BitVec 8:=rk key (j/16) (j%16)
theorem JT (key:Nat->BitVec 8) (j:Nat) (h:j<16):kw key j=key j:=by
 rw [kw,show j/16=0 by omega,show j%16=j by omega,rk,oL _ h]
theorem Dy (key:Nat->BitVec 8) (R j:Nat) (h:j<16):kw key (16*(R+1)+j)=nkc (rc R) (rk key R) (j%4) (j/4):=by
 rw [kw,show (16*(R+1)+j)/16=R+1 by omega,show (16*(R+1)+j)%16=j by omega,rk,nk,oL _ h]
theorem Dz (key:Nat->BitVec 8) (R j:Nat) (h:j<16):kw key (16*R+j)=rk key R j:=by
 rw [kw,show (16*R+j)/16=R by omega,show (16*R+j)%16=j by omega]
def twd (key:Nat->BitVec 8) (i c:Nat):BitVec 8:=
 if i%4=0 then bx (kw key (4*(i-1)+(c+1)%4))^^^(if c=0 then rc (i/4-1) else 0#8) else kw key (4*(i-1)+c)
theorem Dx (key:Nat->BitVec 8) (i c:Nat) (D:4<=i) (E:c<4):kw key (4*i+c)=kw key (4*(i-4)+c)^^^twd key i c:=by
 obtain ⟨R,q,F,rfl⟩:∃R q,q<4/\i=4*(R+1)+q:=⟨i/4-1,i%4,oA,oA⟩;have A:kw key (4*(4*(R+1)+q)+c)=nkc (rc R) (rk key R) c q:=by
  rw [show 4*(4*(R+1)+q)+c=16*(R+1)+(4*q+c) by omega,Dy _ _ _ oA,show (4*q+c)%4=c by omega,show (4*q+c)/4=q by omega]
 have C:kw key (4*(4*(R+1)+q-4)+c)=rk key R (4*q+c):=by
  rw [show 4*(4*(R+1)+q-4)+c=16*R+(4*q+c) by omega,Dz _ _ _ oA]
 rw [A,C];unfold twd;by_cases h:q=0
 .subst h;rw [Vz oA,show (4*(R+1)+0)/4-1=R by omega,show 4*(4*(R+1)+0-1)+(c+1)%4=16*R+(12+(c+1)%4) by omega,Dz _ _ _ oA,nkc,nk0,BitVec.xor_comm,Nat.mul_zero,VN]
 .obtain ⟨p,rfl⟩:∃p,q=p+1:=⟨q-1,oA⟩;rw [VV oA,show 4*(4*(R+1)+(p+1)-1)+c=16*(R+1)+(4*p+c) by omega,Dy _ _ _ oA,show (4*p+c)%4=c by omega,show (4*p+c)/4=p by omega,nkc,BitVec.xor_comm]
theorem Hc:(Tryz.prog.info? 231).bind (·.zero)=some (.agg (fA 176 fun _=>0#8)):=by kernel_rfl
theorem Ly:(Tryz.prog.info? 277).bind (·.zero)=some (.agg (fA 176 fun _=>0#8)):=by kernel_rfl
theorem GL:lY prog 231 176:=⟨⟨_,underlying231,rfl⟩,krA⟩
structure nw (w:As) (H:Nat) (key:Nat->BitVec 8) (f:Nat->BitVec 8) (wr:As):Prop where
 key:Blk wr H (fA 16 key) 169
 box:Blk wr (H+1) (fA 256 sO) 230
 out:∃z:AS,z.size=176/\Blk wr (H+2) z 231
 ws:Blk wr (H+3) (fA 176 f) 277
 below:Below H w wr
theorem nw.drew {w:As} {H:Nat} {key f:Nat->BitVec 8} {wr:As} (h:nw w H key f wr):nw w H key f wr.drew:=⟨h.key,h.box,h.out,h.ws,⟨h.below.os,h.below.tape,h.below.output,h.below.size,h.below.block⟩⟩
theorem nw.ofF {w:As} {H:Nat} {key f g:Nat->BitVec 8} {wr:As} (h:nw w H key f wr) (e:∀i,i<176->f i=g i):nw w H key g wr:=⟨h.key,h.box,h.out,h.ws.ofF e,h.below⟩
theorem nw.set {w:As} {H:Nat} {key f:Nat->BitVec 8} {wr:As} (h:nw w H key f wr) {j:Nat} (A:j<176) (v:BitVec 8):nw w H key (fun i=>if i=j then v else f i) (wr.setCell ⟨H+3,j,none⟩ (.int .u8 (B8 v))):=
 ⟨h.key.other _ _ (by show H≠H+3;omega),h.box.other _ _ (by show H+1≠H+3;omega),by obtain ⟨z,C,D⟩:=h.out;exact ⟨z,C,D.other _ _ (by show H+2≠H+3;omega)⟩,h.ws.setF A v,h.below.setCell (by show H<=H+3;omega) _⟩
theorem nw.far {w:As} {H:Nat} {key f:Nat->BitVec 8} {wr:As} (h:nw w H key f wr) {g:Nat} (D:H+3<g) (i:Nat) (v:Value):nw w H key f (wr.setCell ⟨g,i,none⟩ v):=
 ⟨h.key.other _ _ (by show H≠g;omega),h.box.other _ _ (by show H+1≠g;omega),by obtain ⟨z,A,C⟩:=h.out;exact ⟨z,A,C.other _ _ (by show H+2≠g;omega)⟩,h.ws.other _ _ (by show H+3≠g;omega),h.below.setCell (by show H<=g;omega) _⟩
theorem nw.farRow {w:As} {H:Nat} {key f:Nat->BitVec 8} {wr:As} (h:nw w H key f wr) {g:Nat} (D:H+3<g) (cs:AS):nw w H key f (wr.setRow g cs):=
 ⟨h.key.setRow_other _ _ oA,h.box.setRow_other _ _ oA,by obtain ⟨z,A,C⟩:=h.out;exact ⟨z,A,C.setRow_other _ _ oA⟩,h.ws.setRow_other _ _ oA,ak h.below oA _⟩
theorem nw.old {w:As} {H:Nat} {key f:Nat->BitVec 8} {wr wq:As} (h:nw w H key f wr) (A:Below wr.heap.size wr wq):nw w H key f wq:=
 ⟨h.key.old A,h.box.old A,by obtain ⟨z,C,D⟩:=h.out;exact ⟨z,C,D.old A⟩,h.ws.old A,h.below.trans (A.mono (by have:=h.key.lt;omega))⟩
def Ky1 (w:As) (H:Nat) (key:Nat->BitVec 8) (f:Nat) (i:Value) (wr:As):Prop:=
 ∃k:Nat,f+k=16/\i= .int .i64 (k:Int)/\nw w H key (fun j=>if j<k then key j else 0#8) wr
def Ky2 (w:As) (H:Nat) (key:Nat->BitVec 8) (f:Nat) (i r:Value) (wr:As):Prop:=
 ∃k:Nat,f+k=44/\4<=k/\i= .int .i64 (k:Int)/\r= .int .u8 (B8 (rc ((k-1)/4)))/\nw w H key (fun j=>if j<4*k then kw key j else 0#8) wr
def Ky3 (w:As) (H T n:Nat) (key:Nat->BitVec 8) (f:Nat) (i:Value) (wr:As):Prop:=
 ∃k:Nat,f+k=4/\i= .int .i64 (k:Int)/\nw w H key (fun j=>if j<4*n+k then kw key j else 0#8) wr/\Blk wr T (fA 4 (twd key n)) 235
def Ky4 (w:As) (H O:Nat) (key:Nat->BitVec 8) (f:Nat) (i:Value) (wr:As):Prop:=
 ∃k:Nat,f+k=176/\i= .int .i64 (k:Int)/\nw w H key (kw key) wr/\Blk wr O (fA 176 (fun j=>if j<k then kw key j else 0#8)) 231
theorem tV {G:World->Prop} {W:As} (F:World->Prop) (C:F W) (h:∀A,F A->G A):G W:=h W C
theorem IV (key:Nat->BitVec 8) (n m:Nat) (A:m=n-1) (h:n%4=0):(#[.int .u8 (B8 (bx (kw key (4*m+1))^^^rc ((n-1)/4))),.int .u8 (B8 (bx (kw key (4*m+2)))),.int .u8 (B8 (bx (kw key (4*m+3)))),.int .u8 (B8 (bx (kw key (4*m+0))))]:AS)=fA 4 (twd key n):=by
 have C:twd key n 0=bx (kw key (4*m+1))^^^rc ((n-1)/4):=(by rw [twd,Vz h,Vz rfl,A,show n/4-1=(n-1)/4 by omega]);have D:twd key n 1=bx (kw key (4*m+2)):=(by rw [twd,Vz h,VV oA,A,Zd]);have E:twd key n 2=bx (kw key (4*m+3)):=(by rw [twd,Vz h,VV oA,A,Zd]);have F:twd key n 3=bx (kw key (4*m+0)):=(by rw [twd,Vz h,VV oA,A,Zd]);rw [<-C,<-D,<-E,<-F];rfl
theorem Jo (n:Nat) (A:4<=n) (h:n%4=0):rc ((n+1-1)/4)=tim (rc ((n-1)/4)) 2#8:=by rw [show (n+1-1)/4=(n-1)/4+1 by omega,rc]
theorem Jn (n:Nat) (A:4<=n) (h:¬n%4=0):rc ((n+1-1)/4)=rc ((n-1)/4):=by rw [show (n+1-1)/4=(n-1)/4 by omega]
theorem CF (key:Nat->BitVec 8) (w:As):
  Calls prog 192 #[.agg (fA 16 key),.agg (fA 256 sO)] w fun e w'=>e= .returned (.agg (fA 176 (kw key)))/\Below w.heap.size w w':=by
 have b:=kM Hc;have A6:=kM Ly;go_enter func192,ntmps192;go_wp2_with fail;clear A6;refine ag (fun E=>nw w w.heap.size key (fun _=>0#8) E) ⟨(Blk.new3 _ _ _ _ _).alloc _,(Blk.new3' _ _ _ _ _).alloc _,⟨fA 176 fun _=>0#8,aH _ _,(Blk.new3'' w (fA 176 fun _=>0#8) _ _ _).alloc _⟩,?_,cL⟩ ?_
 .have:=Blk.new (((w.alloc (.cells (fA 16 key) 169)).alloc (.cells (fA 256 sO) 230)).alloc (.cells (fA 176 fun _=>0#8) 231)) (fA 176 fun _=>0#8) 277;simp at this;exact this
 rintro w0 A;obtain ⟨H,hH⟩:=At w.heap.size;rw [<-hH] at A⊢;have HH:=Hd hH;clear hH;have HZ:=Hd b;clear b;go_loopg [6] 16 (Ky1 w H key)
 case atStart=>exact ⟨0,oA,rfl,A⟩
 case round=>
  clear A;obtain ⟨k,C,rfl,A⟩:=hrel;by_cases I:k<16
  .have f:decide ((k:Int)<16)=true:=soA;have G:=Hd C;clear C;have A2:(k:Int)<16:=oA;obtain ⟨p,hp⟩:=At (k/4);obtain ⟨q,hq⟩:=At (k%4);have B4:IntKind.i64.wrap ((k:Int)/4)=(p:Int):=(by rw [VD _ oA];omega);have B5:(k:Int).tmod 4=(q:Int):=(by rw [Wg oA];omega);have B6:(p:Int)<44:=oA;have B7:(q:Int)<4:=oA;have S:∀W,Old wr.drew W->W.cell? ⟨H,k,none⟩=some (.int .u8 (B8 (key k))):=fun W h=>(A.key.drew.old h).atF I rfl;have U:=Hd (show p*4+q=k by omega);clear hp hq;go_wp2_with fail;refine ah true Old Old.refl Old.trans (.step 0 (.step 1 (.step 2 (.step 3 (.step 4 (.step 5 (.step 6 (.step 7 (.step 8 (.step 9 .done)))))))))) krA krA cdA ?_
   repeat refine txA ?_
   have F:=A.ws.drew;have L:=F.rule;have f3:=F.free;have J:=eT (fun j=>if j<k then key j else 0#8) (show p*4+q<176 by have:=U.out;omega);refine az rfl rfl rfA (fun K M=> ?_);go_wp2_with fail;refine aq ?_;clear L f3 J;go_wp2_with fail;go_roundg (gk-1)
   case rel=>
    have C:=G.out;refine ⟨k+1,oA,gnA,?_⟩;rw [U.out];exact (A.drew.set oA (key k)).ofF fun i _=>Wv (ft k key fun _=>0#8) i
   case measure=>have C:=G.out;omega
  .obtain rfl:k=16:=oA;clear C;go_wp2_with fail;go_loopg [8,7] 40 (Ky2 w H key)
   case atStart=>exact ⟨4,oA,oA,rfl,rfl,A.ofF fun j _=>by
    by_cases h:j<16
    .rw [Vz h,Vz oA,JT _ _ h]
    .rw [VV h,VV oA]⟩
   case round=>
    clear A;obtain ⟨n,C,o,rfl,rfl,A⟩:=hrel;by_cases B2:n<44
    .have tn:decide ((n:Int)<44)=true:=soA;have G:=Hd C;clear C;obtain ⟨g0,rfl⟩:∃g:Nat,g=gk:=⟨_,rfl⟩;obtain ⟨m,r⟩:=At (n-1);obtain ⟨T,N⟩:=At wr.heap.size;have A0:H+3<T:=(by have:=A.ws.lt;omega);have B9:(n:Int)<44:=oA;have B3:(4:Int)<=(n:Int):=oA;have CK:(n:Int)-1=(m:Int):=oA;have CW:(m:Int)<44:=oA;have s:=A.ws;have A1:((fA 176 fun j=>if j<4*n then kw key j else 0#8).toList.drop (m*4)).take 4=fL 4 fun j=>kw key (4*m+j):=by
      rw [yf _ oA];exact Kv fun j hj=>by rw [Vz oA,Wr]
     have c:=Hd A1;clear A1;have d:=A.old ((VW _ _).alloc (VU _) (.cells (fA 4 fun _=>0#8) 235));have P:=Blk.new wr (fA 4 fun _=>0#8) 235;rw [<-N] at P;by_cases h4:n%4=0
     .have t4:((n:Int)%4==0)=true:=soA;have HM:=Hd r;have V:=Hd h4;clear h4 r;go_upto_region 12 with (first|refine dC rfl 235 Lr _ rfl rfl s c.out (dh _ _) ?_|refine ae rfl 235 Lr (.tmp 9) _ (cells:=fA 4 fun j=>kw key (4*m+j)) rfl rfl rfl (Blk.new _ _ _) (aH _ _) rfl (fK _ _) ?_);rw [<-N];refine ag (fun E=>nw w H key (fun j=>if j<4*n then kw key j else 0#8) E/\Blk E T (fA 4 fun j=>kw key (4*m+j)) 235) ⟨d.farRow A0 _,P.setRow _⟩ ?_;clear A d P s c N;rintro X ⟨A,D⟩;have HL:=Hd (IV key n m HM.out V.out);obtain ⟨y,hy⟩:∃y:Nat->BitVec 8,y=fun j=>kw key (4*m+j):=⟨_,rfl⟩;rw [<-hy] at D;have HY:=Hd hy;clear hy;have C0:∀W,Old X.drew W->W.cell? ⟨T,0,none⟩=some (.int .u8 (B8 (y 0))):=fun W h=>(D.drew.old h).atF oA rfl;have S:∀W,Old X.drew W->W.cell? ⟨T,1,none⟩=some (.int .u8 (B8 (y 1))):=fun W h=>(D.drew.old h).atF oA rfl;have C2:∀W,Old X.drew W->W.cell? ⟨T,2,none⟩=some (.int .u8 (B8 (y 2))):=fun W h=>(D.drew.old h).atF oA rfl;have C3:∀W,Old X.drew W->W.cell? ⟨T,3,none⟩=some (.int .u8 (B8 (y 3))):=fun W h=>(D.drew.old h).atF oA rfl;have D0:∀(x:BitVec 8) W,Old X.drew W->W.cell? ⟨H+1,x.toNat,none⟩=some (.int .u8 (B8 (bx x))):=fun x W h=>(A.box.drew.old h).atF x.isLt (by rw [sO,ng]);have l0:=kK (y 0);have l1:=kK (y 1);have l2:=kK (y 2);have l3:=kK (y 3);have u0:=rs (y 0);have u1:=rs (y 1);have u2:=rs (y 2);have u3:=rs (y 3);have n0:=gL (y 0);have n1:=gL (y 1);have n2:=gL (y 2);have n3:=gL (y 3);refine ah true Old Old.refl Old.trans (.step 0 (.step 1 (.step 2 (.step 3 (.step 4 (.step 5 (.step 6 (.step 7 (.step 8 (.step 9 (.step 10 (.step 11 (.step 12 (.step 13 (.step 14 (.step 15 (.step 16 (.step 17 (.step 18 (.step 19 .done)))))))))))))))))))) krA krA cdA ?_
      repeat refine txA ?_
      refine az rfl rfl rfA (fun K M=> ?_);refine bq 235 Lr _ _ rfl rfl rfl D.drew rfl (by rw [aH];omega) rfl ?_;refine M _ _ ?_;clear M K C0 S C2 C3 D0 l0 l1 l2 l3 u0 u1 u2 u3 n0 n1 n2 n3;refine aq ?_;rw [nF _ _ (by rw [aH];rfl),HY.out,HL.out];refine tV (fun E=>nw w H key (fun j=>if j<4*n then kw key j else 0#8) E/\Blk E T (fA 4 (twd key n)) 235) ⟨A.drew.farRow A0 _,D.drew.setRow _⟩ ?_;clear A D HL;rintro w7 ⟨A,D⟩;go_wp2_with fail;refine (qh (rc ((n-1)/4)) 2#8 2 rfl _).mono ?_;rintro e w' ⟨rfl,rfl⟩;go_wp2_with fail;refine ag (fun E=>nw w H key (fun j=>if j<4*n then kw key j else 0#8) E/\Blk E T (fA 4 (twd key n)) 235) ⟨A,D⟩ ?_;clear A D;rintro w6 ⟨A,D⟩;go_loopg [10] 4 (Ky3 w H T n key)
      case atStart=>exact ⟨0,oA,rfl,A,D⟩
      case round=>
       clear A D;obtain ⟨k,C,rfl,A,D⟩:=hrel;by_cases I:k<4
       .have f:decide ((k:Int)<4)=true:=soA;have A2:(k:Int)<4:=oA;have R:=Hd C;clear C;obtain ⟨u,Y⟩:=At (n-4);have A7:IntKind.i64.wrap ((n:Int)-4)=(u:Int):=(by rw [VD _ oA];omega);have A8:(u:Int)<44:=oA;have S:∀W,Old wr.drew W->W.cell? ⟨H+1+1+1,u*4+k,none⟩=some (.int .u8 (B8 (kw key (u*4+k)))):=fun W h=>(A.ws.drew.old h).atF oA (by rw [Vz oA]);have C2:∀W,Old wr.drew W->W.cell? ⟨T,k,none⟩=some (.int .u8 (B8 (twd key n k))):=fun W h=>(D.drew.old h).atF I rfl;have Z:kw key (u*4+k)^^^twd key n k=kw key (n*4+k):=(by rw [Y,Wr,<-Dx key n k o I,Wr]);have HE:=Hd Z;clear Y Z;go_wp2_with fail;refine ah true Old Old.refl Old.trans (.step 0 (.step 1 (.step 2 (.step 3 (.step 4 (.step 5 (.step 6 (.step 7 (.step 8 (.step 9 (.step 10 (.step 11 (.step 12 (.step 13 (.step 14 .done))))))))))))))) krA krA cdA ?_
        repeat refine txA ?_
        have F:=A.ws.drew;have L:=F.rule;have f3:=F.free;have J:=eT (fun j=>if j<4*n+k then kw key j else 0#8) (show n*4+k<176 by omega);refine az rfl rfl rfA (fun K M=> ?_);go_wp2_with fail;refine aq ?_;clear L f3 J;go_wp2_with fail;go_roundg (gk-1)
        case rel=>
         have C:=R.out;refine ⟨k+1,oA,gnA,?_,D.drew.other _ _ (by show T≠H+3;omega)⟩;rw [HE.out,Wr n 4];exact (A.drew.set oA (kw key (4*n+k))).ofF fun i _=>Wv (ft (4*n+k) (kw key) fun _=>0#8) i
        case measure=>have C:=R.out;omega
       .obtain rfl:k=4:=oA;clear C;go_wp2_with fail;go_roundg (g0-1)
        case rel=>
         have C:=G.out;exact ⟨n+1,oA,oA,gnA,by rw [Jo n o V.out],A⟩
        case measure=>have C:=G.out;omega
     .have t4:((n:Int)%4==0)=false:=soA;have HM:=Hd r;have V:=Hd h4;clear h4 r;have A3:(fA 4 fun j=>kw key (4*m+j))=fA 4 (twd key n):=uz fun j _=>(by rw [twd,VV V.out,HM.out]);have A4:=Hd A3;clear A3;go_wp2_with (first|refine dC rfl 235 Lr _ rfl rfl s c.out (dh _ _) ?_|refine ae rfl 235 Lr (.tmp 9) _ (cells:=fA 4 fun j=>kw key (4*m+j)) rfl rfl rfl (Blk.new _ _ _) (aH _ _) rfl (fK _ _) ?_);rw [<-N];refine ag (fun E=>nw w H key (fun j=>if j<4*n then kw key j else 0#8) E/\Blk E T (fA 4 (twd key n)) 235) ⟨d.farRow A0 _,by rw [<-A4.out];exact P.setRow _⟩ ?_;clear d P s c N A4;clear A;rintro w6 ⟨A,D⟩;go_loopg [10] 4 (Ky3 w H T n key)
      case atStart=>exact ⟨0,oA,rfl,A,D⟩
      case round=>
       clear A D;obtain ⟨k,C,rfl,A,D⟩:=hrel;by_cases I:k<4
       .have f:decide ((k:Int)<4)=true:=soA;have A2:(k:Int)<4:=oA;have R:=Hd C;clear C;obtain ⟨u,Y⟩:=At (n-4);have A7:IntKind.i64.wrap ((n:Int)-4)=(u:Int):=(by rw [VD _ oA];omega);have A8:(u:Int)<44:=oA;have S:∀W,Old wr.drew W->W.cell? ⟨H+1+1+1,u*4+k,none⟩=some (.int .u8 (B8 (kw key (u*4+k)))):=fun W h=>(A.ws.drew.old h).atF oA (by rw [Vz oA]);have C2:∀W,Old wr.drew W->W.cell? ⟨T,k,none⟩=some (.int .u8 (B8 (twd key n k))):=fun W h=>(D.drew.old h).atF I rfl;have Z:kw key (u*4+k)^^^twd key n k=kw key (n*4+k):=(by rw [Y,Wr,<-Dx key n k o I,Wr]);have HE:=Hd Z;clear Y Z;go_wp2_with fail;refine ah true Old Old.refl Old.trans (.step 0 (.step 1 (.step 2 (.step 3 (.step 4 (.step 5 (.step 6 (.step 7 (.step 8 (.step 9 (.step 10 (.step 11 (.step 12 (.step 13 (.step 14 .done))))))))))))))) krA krA cdA ?_
        repeat refine txA ?_
        have F:=A.ws.drew;have L:=F.rule;have f3:=F.free;have J:=eT (fun j=>if j<4*n+k then kw key j else 0#8) (show n*4+k<176 by omega);refine az rfl rfl rfA (fun K M=> ?_);go_wp2_with fail;refine aq ?_;clear L f3 J;go_wp2_with fail;go_roundg (gk-1)
        case rel=>
         have C:=R.out;refine ⟨k+1,oA,gnA,?_,D.drew.other _ _ (by show T≠H+3;omega)⟩;rw [HE.out,Wr n 4];exact (A.drew.set oA (kw key (4*n+k))).ofF fun i _=>Wv (ft (4*n+k) (kw key) fun _=>0#8) i
        case measure=>have C:=R.out;omega
       .obtain rfl:k=4:=oA;clear C;go_wp2_with fail;go_roundg (g0-1)
        case rel=>
         have C:=G.out;exact ⟨n+1,oA,oA,gnA,by rw [Jn n o V.out],A⟩
        case measure=>have C:=G.out;omega
    .obtain rfl:n=44:=oA;have tn:decide (((44:Nat):Int)<44)=false:=skA;clear C;have b:=HZ.out;go_wp2_with fail;clear b;obtain ⟨O,hO⟩:=At wr.heap.size;have A9:H+3<O:=(by have:=A.ws.lt;omega);refine ag (fun E=>nw w H key (kw key) E/\Blk E O (fA 176 fun _=>0#8) 231) ⟨(A.ofF (g:=kw key) fun i hi=>by rw [Vz oA]).old ((VW _ _).alloc (VU _) _),by rw [hO];exact Blk.new _ _ _⟩ ?_;rw [<-hO];clear A hO;rintro w8 ⟨A,D⟩;go_loopg [12] 176 (Ky4 w H O key)
     case atStart=>exact ⟨0,oA,rfl,A,by simpa using D⟩
     case round=>
      clear A D;obtain ⟨k,C,rfl,A,D⟩:=hrel;by_cases I:k<176
      .have f:decide ((k:Int)<176)=true:=soA;have G:=Hd C;clear C;obtain ⟨p,hp⟩:=At (k/16);obtain ⟨q,hq⟩:=At (k%16);obtain ⟨p',BY⟩:=At (k/4);obtain ⟨q',B0⟩:=At (k%4);have e1:IntKind.i64.wrap ((k:Int)/16)=(p:Int):=(by rw [VD _ oA];omega);have e2:(k:Int).tmod 16=(q:Int):=(by rw [Wg oA];omega);have e3:IntKind.i64.wrap ((k:Int)/4)=(p':Int):=(by rw [VD _ oA];omega);have e4:(k:Int).tmod 4=(q':Int):=(by rw [Wg oA];omega);have i1:(p:Int)<11:=oA;have i2:(q:Int)<16:=oA;have i3:(p':Int)<44:=oA;have i4:(q':Int)<4:=oA;have U:=Hd (show p*16+q=k by omega);have A5:=Hd (show p'*4+q'=k by omega);clear hp hq BY B0;have S:∀W,Old wr.drew W->W.cell? ⟨H+1+1+1,p'*4+q',none⟩=some (.int .u8 (B8 (kw key k))):=fun W h=>(A.ws.drew.old h).atF (by have:=A5.out;omega) (by rw [A5.out]);go_wp2_with fail;refine ah true Old Old.refl Old.trans (.step 0 (.step 1 (.step 2 (.step 3 (.step 4 (.step 5 (.step 6 (.step 7 (.step 8 (.step 9 (.step 10 (.step 11 (.step 12 (.step 13 .done)))))))))))))) krA krA cdA ?_
       repeat refine txA ?_
       have F:=D.drew;have L:=F.rule;have f3:=F.free;have J:=eT (fun j=>if j<k then kw key j else 0#8) (show p*16+q<176 by have:=U.out;omega);refine az rfl rfl rfA (fun K M=> ?_);go_wp2_with fail;refine aq ?_;clear L f3 J;go_wp2_with fail;go_roundg (gk-1)
       case rel=>
        have C:=G.out;refine ⟨k+1,oA,gnA,A.drew.far A9 _ _,?_⟩;rw [U.out];exact (F.setF I (kw key k)).ofF fun i _=>Wv (ft k (kw key) fun _=>0#8) i
       case measure=>have C:=G.out;omega
      .obtain rfl:k=176:=oA;have f:decide (((176:Nat):Int)<176)=false:=skA;clear C;have B1:=D.ofF (t:=kw key) fun i h=>(by rw [Vz h]);obtain ⟨z,hz,hZ⟩:=A.out;have hb:=A.below;clear D A;go_wp2_with (first|refine ap rfl 231 GL _ rfl rfl B1 (aH _ _) ?_|refine ae rfl 231 GL (.tmp 4) _ (cells:=fA 176 (kw key)) rfl rfl rfl hZ (aH _ _) hz (fK _ _) ?_);refine cT rfl GL rfl (hZ.setRow _) (aH _ _) rfl ⟨rfl,?_⟩;rw [HH.out] at hb⊢;exact ak hb oA _
end
section
open Go.RowKit
attribute [local go_sem] dD dE dV cG
theorem JU (key:Nat->BitVec 8) (r:Nat) (C:r<11):((fA 176 (kw key)).toList.drop (r*16)).take 16=fL 16 (rk key r):=by
 rw [yf _ oA];exact Kv fun j A=>by rw [Wr,Dz _ _ _ A]
theorem Fm (s:Nat->BitVec 8) (i:Nat) (h:i<16):trn (thr bx s) i=bx (s (frm i)):=by
 rw [trn,oL _ h,thr,oL _ (xk i h).2.2.1]
theorem Kn (i:Nat):4*((i/4+i)%4)+i%4=frm i:=by unfold frm;omega
structure rA (w:As) (H Kb Bb:Nat) (key b:Nat->BitVec 8) (wr:As):Prop where
 box:Blk wr (H+2) (fA 256 sO) 230
 out:∃z:AS,z.size=16/\Blk wr (H+3) z 169
 keys:Blk wr Kb (fA 176 (kw key)) 231
 b:Blk wr Bb (fA 16 b) 169
 below:Below H w wr
theorem rA.drew {w:As} {H A C:Nat} {key b:Nat->BitVec 8} {wr:As} (h:rA w H A C key b wr):rA w H A C key b wr.drew:=⟨h.box,h.out,h.keys,h.b,h.below.drew⟩
theorem rA.old {w:As} {H C D:Nat} {key b:Nat->BitVec 8} {wr wq:As} (h:rA w H C D key b wr) (A:Below wr.heap.size wr wq):rA w H C D key b wq:=
 ⟨h.box.old A,by obtain ⟨z,E,F⟩:=h.out;exact ⟨z,E,F.old A⟩,h.keys.old A,h.b.old A,h.below.trans (A.mono (by have:=h.box.lt;omega))⟩
theorem rA.far {w:As} {H A C:Nat} {key b:Nat->BitVec 8} {wr:As} (h:rA w H A C key b wr) {T:Nat} (F:H+3<T) (G:T≠A) (I:T≠C) (i:Nat) (v:Value):rA w H A C key b (wr.setCell ⟨T,i,none⟩ v):=
 ⟨h.box.other _ _ (by show H+2≠T;omega),by obtain ⟨z,D,E⟩:=h.out;exact ⟨z,D,E.other _ _ (by show H+3≠T;omega)⟩,h.keys.other _ _ (by show A≠T;omega),h.b.other _ _ (by show C≠T;omega),h.below.setCell (by show H<=T;omega) _⟩
theorem rA.farRow {w:As} {H A C:Nat} {key b:Nat->BitVec 8} {wr:As} (h:rA w H A C key b wr) {T:Nat} (F:H+3<T) (G:T≠A) (I:T≠C) (cs:AS):rA w H A C key b (wr.setRow T cs):=
 ⟨h.box.setRow_other _ _ oA,by obtain ⟨z,D,E⟩:=h.out;exact ⟨z,D,E.setRow_other _ _ oA⟩,h.keys.setRow_other _ _ oA,h.b.setRow_other _ _ oA,ak h.below oA _⟩
theorem rA.put {w:As} {H C A:Nat} {key b:Nat->BitVec 8} {wr:As} (h:rA w H C A key b wr) (G:H+3<A) (D:Nat->BitVec 8):rA w H C A key D (wr.setRow A (fA 16 D)):=
 ⟨h.box.setRow_other _ _ oA,by obtain ⟨z,E,F⟩:=h.out;exact ⟨z,E,F.setRow_other _ _ oA⟩,h.keys.setRow_other _ _ (Blk.ne h.keys h.b dcA),h.b.setRow _,ak h.below oA _⟩
def En1 (w:As) (H Kb Bb:Nat) (key s:Nat->BitVec 8) (f:Nat) (i:Value) (wr:As):Prop:=
 ∃r:Nat,f+r=11/\1<=r/\i= .int .i64 (r:Int)/\rA w H Kb Bb key (bt key s (r-1)) wr
def En2 (w:As) (H Kb Bb T:Nat) (key b:Nat->BitVec 8) (f:Nat) (i:Value) (wr:As):Prop:=
 ∃k:Nat,f+k=16/\i= .int .i64 (k:Int)/\rA w H Kb Bb key b wr/\Blk wr T (fA 16 (fun j=>if j<k then trn (thr bx b) j else 0#8)) 169
theorem FB (key s:Nat->BitVec 8) (w:As):
  Calls prog 182 #[.agg (fA 16 key),.agg (fA 16 s),.agg (fA 256 sO)] w fun e w'=>e= .returned (.agg (fA 16 (enc key s)))/\Below w.heap.size w w':=by
 have c:=kM Hc;have HZ:=Hd c;clear c;go_enter func182,ntmps182;go_upto_region 1 with fail;refine ag (fun C=>Blk C w.heap.size (fA 16 key) 169/\Blk C (w.heap.size+1) (fA 16 s) 169/\Blk C (w.heap.size+2) (fA 256 sO) 230/\Blk C (w.heap.size+3) (fA 16 fun _=>0#8) 169/\Below w.heap.size w C) ⟨(Blk.new3 _ _ _ _ _).alloc _,(Blk.new3' _ _ _ _ _).alloc _,(Blk.new3'' w (fA 256 sO) _ _ _).alloc _,?_,cL⟩ ?_
 .have:=Blk.new (((w.alloc (.cells (fA 16 key) 169)).alloc (.cells (fA 16 s) 169)).alloc (.cells (fA 256 sO) 230)) (fA 16 fun _=>0#8) 169;simp at this;exact this
 rintro w0 ⟨D,O,G,L,F⟩;obtain ⟨H,hH⟩:=At w.heap.size;rw [<-hH] at D O G L F⊢;have HH:=Hd hH;clear hH;go_wp2_with (first|refine ap rfl 169 ee _ rfl rfl D (aH _ _) ?_|refine ap rfl 230 sV _ rfl rfl G (aH _ _) ?_);refine (CF key _).mono ?_;rintro e w1 ⟨rfl,U⟩;replace F:=F.trans (U.mono (by have:=D.lt;omega));replace O:=O.old U;replace G:=G.old U;replace L:=L.old U;clear D U;have c:=HZ.out;go_upto_region 2 with (refine ae rfl 231 GL (.tmp 7) _ (cells:=fA 176 (kw key)) rfl rfl rfl (Blk.new _ _ _) (aH _ _) (aH _ _) (fK _ _) ?_);obtain ⟨I,d⟩:=At w1.heap.size;have A5:H+3<I:=(by have:=L.lt;omega);refine ag (fun C=>C.heap.size=I+1/\Blk C (H+1) (fA 16 s) 169/\Blk C (H+2) (fA 256 sO) 230/\Blk C (H+3) (fA 16 fun _=>0#8) 169/\Blk C I (fA 176 (kw key)) 231/\Below H w C) ⟨by simp [World.setRow,d],(O.alloc _).setRow_other _ _ oA,(G.alloc _).setRow_other _ _ oA,(L.alloc _).setRow_other _ _ oA,by rw [d];exact (Blk.new _ _ _).setRow _,ak (F.alloc oA _) oA _⟩ ?_;rw [<-d];clear O G L F d c;rintro w2 ⟨hs,O,G,L,D,F⟩;have HS:=Hd hs;clear hs;have o:=JU key 0 oA;rw [Zj] at o;have A3:=Hd o;clear o;go_wp2_with (first|refine ap rfl 169 ee _ rfl rfl O (aH _ _) ?_|refine dC rfl 169 ee _ rfl rfl D A3.out (dh _ _) ?_);refine (tH s (rk key 0) _).mono ?_;rintro e w3 ⟨rfl,V⟩;replace F:=F.trans (V.mono (by have:=G.lt;omega));replace G:=G.old V;replace L:=L.old V;replace D:=D.old V;clear O HS V;go_upto_region 3 with (refine ae rfl 169 ee (.tmp 8) _ (cells:=fA 16 (sx s (rk key 0))) rfl rfl rfl (Blk.new _ _ _) (aH _ _) rfl (fK _ _) ?_);obtain ⟨N,p⟩:=At w3.heap.size;have A6:I<N:=(by have:=D.lt;omega);rw [<-p];have q:=Blk.new w3 (fA 16 fun _=>0#8) 169;rw [<-p] at q;refine ag (fun C=>rA w H I N key (bt key s 0) C) ?_ ?_
 .exact ⟨(G.alloc _).setRow_other _ _ oA,⟨_,aH _ _,(L.alloc _).setRow_other _ _ oA⟩,(D.alloc _).setRow_other _ _ oA,q.setRow _,ak (F.alloc oA _) oA _⟩
 clear G L F p D q;rintro w4 A;go_wp2_with fail;go_loopg [9] 10 (En1 w H I N key s)
 case atStart=>exact ⟨1,oA,oA,rfl,A⟩
 case round=>
  clear A;obtain ⟨r,J,A7,rfl,A⟩:=hrel;by_cases hr:r<11
  .have tr:decide ((r:Int)<=10)=true:=soA;obtain ⟨b,F⟩:=At (bt key s (r-1));rw [<-F] at A;have HB:=Hd F;have f:=Hd J;clear F J;obtain ⟨T,E⟩:=At wr.heap.size;have A8:N<T:=(by have:=A.b.lt;omega);obtain ⟨g0,rfl⟩:∃g:Nat,g=gk:=⟨_,rfl⟩;go_wp2_with fail;refine ag (fun C=>rA w H I N key b C/\Blk C T (fA 16 fun _=>0#8) 169) ⟨A.old ((VW _ _).alloc (VU _) _),by rw [E];exact Blk.new _ _ _⟩ ?_;rw [<-E];clear A E;rintro w5 ⟨A,E⟩;go_loopg [11] 16 (En2 w H I N T key b)
   case atStart=>exact ⟨0,oA,rfl,A,by simpa using E⟩
   case round=>
    clear A E;obtain ⟨k,J,rfl,A,E⟩:=hrel;by_cases n:k<16
    .have tk:decide ((k:Int)<16)=true:=soA;have A1:=Hd J;clear J;have l0:=kK (b (frm k));have u0:=rs (b (frm k));have n0:=gL (b (frm k));have c0:wr.cell? ⟨N,4*((k/4+k)%4)+k%4,none⟩=some (.int .u8 (B8 (b (frm k)))):=(by rw [Kn];exact A.b.atF (xk k n).2.2.1 rfl);have c1:wr.cell? ⟨H+2,(b (frm k)).toNat,none⟩=some (.int .u8 (B8 (bx (b (frm k))))):=A.box.atF (b (frm k)).isLt (by rw [sO,ng]);have r3:=E.rule;have f3:=E.free;have A4:=eT (fun j=>if j<k then trn (thr bx b) j else 0#8) n;go_wp2_with fail;clear r3 f3 A4 c0 c1;go_roundg (gk-1)
     case rel=>
      have J:=A1.out;refine ⟨k+1,oA,gnA,A.far oA oA oA _ _,?_⟩;rw [<-Fm b k n];exact (E.setF n (trn (thr bx b) k)).ofF fun i _=>Wv (ft k (trn (thr bx b)) fun _=>0#8) i
     case measure=>have J:=A1.out;omega
    .obtain rfl:k=16:=oA;have tk:decide (((16:Nat):Int)<16)=false:=skA;clear J;replace E:=E.ofF (t:=trn (thr bx b)) fun i h=>(by rw [Vz h]);have A9:(r:Int)<11:=oA;by_cases A2:r<10
     .have t10:decide ((r:Int)<10)=true:=soA;go_wp2_with (refine ap rfl 169 ee _ rfl rfl E (aH _ _) ?_);refine (FA mE (trn (thr bx b)) _).mono ?_;rintro e S ⟨rfl,y⟩;replace A:=A.old y;replace E:=E.old y;clear y;go_wp2_with (refine ae rfl 169 ee (.tmp 10) _ rfl rfl rfl E (aH _ _) (aH _ _) (fK _ _) ?_);refine ag (fun C=>rA w H I N key b C/\Blk C T (fA 16 (mx mE (trn (thr bx b)))) 169) ⟨A.farRow oA oA oA _,E.setRow _⟩ ?_;clear A E;rintro S ⟨A,E⟩;have X:∀W,Old S.drew W->∀j (Z:j<(fL 16 (rk key r)).length),W.cell? ⟨I,r*16+j,none⟩=some (fL 16 (rk key r))[j]:=fun W M j Z=>by
       have A0:j<16:=(by simpa [dh] using Z);rw [(A.keys.drew.old M).atF (show r*16+j<176 by omega) rfl];simp [fL,fv,Wr r 16,Dz key r j A0]
      have Y:=Hd X;clear X;refine ah true Old Old.refl Old.trans (.step 0 (.step 1 (.step 2 (.step 3 (.step 4 (.step 5 .done)))))) krA krA cdA ?_;refine bM (v:= .agg (fA 16 (mx mE (trn (thr bx b))))) rfl rfl rfA (fun W M=>aI 169 ee _ rfl rfl rfl (E.drew.old M).cells (dh _ _)) ?_;simp only [Act.put,sTA,List.set]
      repeat refine txA ?_
      refine bM (v:= .agg (fA 16 (rk key r))) rfl rfl rfA (fun W M=>aI 169 ee _ rfl rfl rfl (Y.out W M) (dh _ _)) ?_;simp only [Act.put,sTA,List.set];refine am rfl rfl rfA (fun K D=> ?_);go_wp2_with fail;refine (tH _ (rk key r) _).mono ?_;rintro e w7 ⟨rfl,P⟩;go_wp2_with fail;refine D _ _ P ?_;clear D K Y;have R:=A.drew.old P;refine az rfl rfl rfA (fun K D=> ?_);refine bq 169 ee _ _ rfl rfl rfl R.b (aH _ _) (by rw [aH];omega) (fK _ _) ?_;refine D _ _ ?_;clear D K;refine aq ?_;rw [nF _ _ (by rw [aH,aH])];refine tV (fun C=>rA w H I N key (sx (mx mE (trn (thr bx b))) (rk key r)) C) (R.put oA _) ?_;clear A R P E;rintro w8 A;go_wp2_with fail;go_roundg (g0-1)
      case rel=>
       have J:=f.out;refine ⟨r+1,oA,oA,gnA,?_⟩;rw [show r+1-1=(r-1)+1 by omega,bt,rnd,show r-1+1=r by omega,Vz A2,<-HB.out];exact A
      case measure=>have J:=f.out;omega
     .have t10:decide ((r:Int)<10)=false:=soA;obtain ⟨S,rfl⟩:∃S:World,S=wr:=⟨_,rfl⟩;go_wp2_with fail;have X:∀W,Old S.drew W->∀j (Z:j<(fL 16 (rk key r)).length),W.cell? ⟨I,r*16+j,none⟩=some (fL 16 (rk key r))[j]:=fun W M j Z=>by
       have A0:j<16:=(by simpa [dh] using Z);rw [(A.keys.drew.old M).atF (show r*16+j<176 by omega) rfl];simp [fL,fv,Wr r 16,Dz key r j A0]
      have Y:=Hd X;clear X;refine ah true Old Old.refl Old.trans (.step 0 (.step 1 (.step 2 (.step 3 (.step 4 (.step 5 .done)))))) krA krA cdA ?_;refine bM (v:= .agg (fA 16 (trn (thr bx b)))) rfl rfl rfA (fun W M=>aI 169 ee _ rfl rfl rfl (E.drew.old M).cells (dh _ _)) ?_;simp only [Act.put,sTA,List.set]
      repeat refine txA ?_
      refine bM (v:= .agg (fA 16 (rk key r))) rfl rfl rfA (fun W M=>aI 169 ee _ rfl rfl rfl (Y.out W M) (dh _ _)) ?_;simp only [Act.put,sTA,List.set];refine am rfl rfl rfA (fun K D=> ?_);go_wp2_with fail;refine (tH _ (rk key r) _).mono ?_;rintro e w7 ⟨rfl,P⟩;go_wp2_with fail;refine D _ _ P ?_;clear D K Y;have R:=A.drew.old P;refine az rfl rfl rfA (fun K D=> ?_);refine bq 169 ee _ _ rfl rfl rfl R.b (aH _ _) (by rw [aH];omega) (fK _ _) ?_;refine D _ _ ?_;clear D K;refine aq ?_;rw [nF _ _ (by rw [aH,aH])];refine tV (fun C=>rA w H I N key (sx (trn (thr bx b)) (rk key r)) C) (R.put oA _) ?_;clear A R P E;rintro w8 A;go_wp2_with fail;go_roundg (g0-1)
      case rel=>
       have J:=f.out;refine ⟨r+1,oA,oA,gnA,?_⟩;rw [show r+1-1=(r-1)+1 by omega,bt,rnd,show r-1+1=r by omega,VV A2,<-HB.out];exact A
      case measure=>have J:=f.out;omega
  .obtain rfl:r=11:=oA;have tr:decide (((11:Nat):Int)<=10)=false:=skA;clear J;obtain ⟨G,⟨z,hz,hZ⟩,D,hB,F⟩:=A;go_wp2_with (first|refine ap rfl 169 ee _ rfl rfl hB (aH _ _) ?_|refine ae rfl 169 ee (.tmp 6) _ (cells:=fA 16 (bt key s (11-1))) rfl rfl rfl hZ (aH _ _) hz (fK _ _) ?_);refine cT rfl ee rfl (hZ.setRow _) (aH _ _) rfl ⟨rfl,?_⟩;rw [HH.out] at F⊢;exact ak F oA _
end
section
open Go.RowKit
attribute [local go_sem] dD dE dV cG
def ctr (nonce:Nat->BitVec 8) (q:Nat):Nat->BitVec 8:=fun j=>if j<12 then nonce j else BitVec.ofNat 8 (q/2^(24-8*(j-12)))
def ksb (key nonce:Nat->BitVec 8) (i:Nat):BitVec 8:=enc key (ctr nonce (i/16)) (i%16)
def stk (key nonce:Nat->BitVec 8) (l:Le) (k:Nat):Le:=(List.range k).map fun i=>⟨(l.getD i 0).toBitVec^^^ksb key nonce i⟩
def stm (key nonce:Nat->BitVec 8) (l:Le):Le:=stk key nonce l l.length
theorem yT (key nonce:Nat->BitVec 8) (l:Le) (k:Nat):stk key nonce l (k+1)=stk key nonce l k++ [⟨(l.getD k 0).toBitVec^^^ksb key nonce k⟩]:=by
 simp [stk,YT]
theorem Ao (key nonce:Nat->BitVec 8) (l:Le) (k:Nat):(stk key nonce l k).length=k:=by simp [stk]
theorem eM (key nonce:Nat->BitVec 8) (l:Le):(stm key nonce l).length=l.length:=Ao _ _ _ _
theorem Jc (key nonce:Nat->BitVec 8) (l:Le):stm key nonce (stm key nonce l)=l:=by
 apply ZC
 .rw [eM,eM]
 .intro i h1 h2;simp only [stm,stk,WL,XL,lmA,Yd];rw [VG,VJ (by simpa using h2)];simp only [Yt,WL,XL];rw [Xg,BitVec.xor_self,Zd,VG,VJ h2];rfl
theorem yr:bC prog 22 5 1 1:=bC.mk (z:= .int .u8 0) underlying22 krA rfl oA
theorem Bv:lY prog 175 12:=⟨⟨_,underlying175,rfl⟩,krA⟩
theorem MF:Tryz.prog.arrayLen 175=12:=by kernel_rfl
theorem Ih:Tryz.prog.elem 175=5:=by kernel_rfl
theorem BZ (W:As):(sizeOf 5).run prog W= .ok 1 W:=by
 have:=xi;cases A:Tryz.prog.info? 5 with
 |none=>simp [A] at this
 |some i=>simp [A] at this;simp [sizeOf,typeInfo,A,this]
theorem Qv (b:Nat) (W:As):(Instr.sliceAt 175 (.pointer (some ⟨b,0,none⟩)) none none none).run prog W= .ok (.slice (some ⟨b,0,none⟩) 12 12) W:=by
 have A:Tryz.prog.underlying 175=some (.array (Tryz.prog.arrayLen 175) (Tryz.prog.elem 175)):=(by rw [MF,Ih];exact underlying175);rw [WD W _ _ A,Ih,BZ,MF];simp [slicedAt];rfl
theorem Qu (b:Nat) (W:As):(Instr.sliceAt 169 (.pointer (some ⟨b,0,none⟩)) none none none).run prog W= .ok (.slice (some ⟨b,0,none⟩) 16 16) W:=by
 have A:Tryz.prog.underlying 169=some (.array (Tryz.prog.arrayLen 169) (Tryz.prog.elem 169)):=(by rw [Dr,zL];exact underlying169);rw [WD W _ _ A,zL,BZ,Dr];simp [slicedAt];rfl
theorem vc (nonce:Nat->BitVec 8):cU (fA 16 fun _=>0#8) 0 (fL 12 nonce).toArray=fA 16 fun j=>if j<12 then nonce j else 0#8:=by
 have:=wu (n:=16) (o:=0) (m:=12) (fun _=>0#8) nonce oA;rw [show (fL 12 nonce).toArray=fA 12 nonce from rfl,this];exact uz fun i _=>by simp
structure La (w:As) (H g X Y:Nat) (key nonce:Nat->BitVec 8) (l:Le) (k:Nat) (oa:Lt) (oc:Nat) (xs ys:Nat->BitVec 8) (wr:As):Prop where
 own:Own wr H 5 1 oa k oc ((stk key nonce l k).map bv)
 cph:Blk wr g (fA 688 (cph key)) 233
 x:Blk wr X (fA 16 xs) 169
 y:Blk wr Y (fA 16 ys) 169
 below:Below H w wr
def NC (w:As) (H g X Y:Nat) (key nonce:Nat->BitVec 8) (l:Le) (f:Nat) (o i:Value) (wr:As):Prop:=
 ∃(k:Nat) (oa:Lt) (oc:Nat) (xs ys:Nat->BitVec 8),f+k=l.length/\i= .int .i64 (k:Int)/\o= .slice oa k oc/\(∀j,j<12->xs j=nonce j)/\(k%16≠0->∀j,j<16->ys j=enc key (ctr nonce (k/16)) j)/\La w H g X Y key nonce l k oa oc xs ys wr
def QI (w:As) (H g X Y:Nat) (key nonce:Nat->BitVec 8) (l:Le) (k:Nat) (oa:Lt) (oc:Nat) (xs ys:Nat->BitVec 8) (f:Nat) (j:Value) (wr:As):Prop:=
 ∃m:Nat,f+m=4/\j= .int .i64 (m:Int)/\La w H g X Y key nonce l k oa oc (fun i=>if i<12 then nonce i else if i<12+m then ctr nonce (k/16) i else xs i) ys wr
theorem qY (nonce:Nat->BitVec 8) (k m p:Nat) (A:p=2^(24-8*m)):B8 (ctr nonce (k/16) (12+m))=((k/16/p%256:Nat):Int):=by
 rw [ctr,VV oA,show 12+m-12=m by omega,<-A];show (((BitVec.ofNat 8 (k/16/p)).toNat:Nat):Int)=_;rw [Wi]
theorem Na (nonce:Nat->BitVec 8) (k:Nat) (_h:k<65536):(k:Int)/16/16777216=B8 (ctr nonce (k/16) (12+0)):=by rw [qY nonce k 0 16777216 rfl];omega
theorem MZ (nonce:Nat->BitVec 8) (k:Nat) (_h:k<65536):(k:Int)/16/65536=B8 (ctr nonce (k/16) (12+1)):=by rw [qY nonce k 1 65536 rfl];omega
theorem MY (nonce:Nat->BitVec 8) (k:Nat) (_h:k<65536):(k:Int)/16/256=B8 (ctr nonce (k/16) (12+2)):=by rw [qY nonce k 2 256 rfl];omega
theorem MX (nonce:Nat->BitVec 8) (k:Nat):(k:Int)/16%256=B8 (ctr nonce (k/16) (12+3)):=by rw [qY nonce k 3 1 rfl];omega
theorem Kx (nonce:Nat->BitVec 8) (k:Nat):(k:Int)/16/1%256=B8 (ctr nonce (k/16) (12+3)):=by rw [qY nonce k 3 1 rfl];omega
theorem uG {wr:As} {X k m:Nat} {nonce C:Nat->BitVec 8} {z:Int} (F:m<4) (_hk:12+m<16) (h:Blk wr X (fA 16 (fun i=>if i<12 then nonce i else if i<12+m then ctr nonce (k/16) i else C i)) 169)
  (E:z=B8 (ctr nonce (k/16) (12+m))):Blk (wr.setCell ⟨X,12+m,none⟩ (.int .u8 z)) X (fA 16 (fun i=>if i<12 then nonce i else if i<12+(m+1) then ctr nonce (k/16) i else C i)) 169:=by
 subst E;refine (h.setF oA (ctr nonce (k/16) (12+m))).ofF fun i G=> ?_;by_cases e:i=12+m
 .subst e;rw [Vz rfl,VV oA,Vz oA]
 .rw [VV e];by_cases A:i<12
  .rw [Vz A,Vz A]
  .rw [VV A,VV A];by_cases D:i<12+m
   .rw [Vz D,Vz oA]
   .rw [VV D,VV oA]
theorem Eg (nonce C:Nat->BitVec 8) {q:Nat} (i:Nat) (h:i<16):(if i<12 then nonce i else if i<12+4 then ctr nonce q i else C i)=ctr nonce q i:=by
 by_cases A:i<12
 .rw [Vz A,ctr,Vz A]
 .rw [VV A,Vz oA]
theorem Co {w:As} {H g X Y:Nat} {key nonce:Nat->BitVec 8} {l:Le} {k f:Nat} {oa A:Lt} {oc C:Nat} {D:Nat->BitVec 8} {E F:As} (L:k<l.length) (O:f+k=l.length) (M:H<=E.heap.size)
  (hx:∀j,j<12->D j=nonce j) (hin:La w H g X Y key nonce l k oa oc D (enc key (ctr nonce (k/16))) E) {cs:AS} {ty:TypeId}
  (J:Own F H 5 1 A (k+1) C ((stk key nonce l k).map bv++ [.int .u8 (B8 (l[k].toBitVec^^^enc key (ctr nonce (k/16)) (k%16)))]))
  (I:(E.alloc (.cells cs ty)).grownBy F (Value.slice oa k oc).ownBlock):NC w H g X Y key nonce l (f-1) (.slice A (k+1) C) (.int .i64 ((k:Int)+1)) F:=by
 have N:l.getD k 0=l[k]:=(by rw [VG,VJ L];rfl);have G:=cI.grown (hin.own.alloc (.cells cs ty)) I;refine ⟨k+1,A,C,D,enc key (ctr nonce (k/16)),oA,gnA,rfl,hx,fun h j _=> ?_,?_,(hin.cph.alloc _).keepNot G dcA,(hin.x.alloc _).keepNot G dcA,(hin.y.alloc _).keepNot G dcA,(hin.own.alloc _).grown (hin.below.alloc M _) (VU _) I soA⟩
 .rw [show (k+1)/16=k/16 by omega]
 .rw [yT,VF,N];exact J
theorem rU (key nonce:Nat->BitVec 8) (a:Lt) (len cap:Nat) (l:Le) (w:As) (hl:aj w a l) (W:l.length=len) (hm:len<=65536):
  Calls prog 112 #[.agg (fA 16 key),.agg (fA 12 nonce),.slice a len cap] w fun e w'=>∃a' c',e= .returned (.tuple #[.slice a' len c',.int .i64 0])/\Own w' w.heap.size 5 1 a' len c' ((stm key nonce l).map bv)/\Below w.heap.size w w':=by
 have t1:decide ((65536:Int)<(len:Int))=false:=soA;obtain ⟨i0,A4,A5,A6,A7⟩:=info_parts (show (Tryz.prog.info? 5).map (fun i=>(i.zero,i.size,i.bytes))=some (some (.int .u8 0),1,1) by kernel_rfl);have HI:=Hd A4;have HZ:=Hd A5;have HS:=Hd A6;have HB:=Hd A7;have f:=Hd W;clear A4 A5 A6 A7 W;go_enter func112,ntmps112;go_upto_region 3 with fail;refine ag (fun A=>Blk A w.heap.size (fA 16 key) 169/\Blk A (w.heap.size+1) (fA 12 nonce) 175/\w.heap.size+2<=A.heap.size/\Below w.heap.size w A) ⟨Blk.new2 _ _ _ _,Blk.new2' _ _ _ _,skA,cL⟩ ?_;rintro w0 ⟨L,M,S,N⟩;obtain ⟨H,hH⟩:=At w.heap.size;rw [<-hH] at L M S N⊢;have HH:=Hd hH;clear hH;go_wp2_with (refine ap rfl 169 ee _ rfl rfl L (aH _ _) ?_);refine (CJ key _).mono ?_;rintro e w1 ⟨g,rfl,hg,O,Z⟩;have A2:Below H w w1:=N.trans (Z.mono oA);have B0:H+2<=w1.heap.size:=(by have:=Z.size;omega);have A8:=M.old Z;have B6:H+2<=g:=oA;clear L M N S Z;go_wp2_with (at_make;refine wpList_make_own _ rfl _ _ 22 rfl H 5 i0 (.int .u8 0) 1 underlying22 HI.out HZ.out HS.out .i64 .i64 _ len rfl rfl rfl (by rw [HB.out];omega) mxA oA ?_;intro w2 A3 R);obtain ⟨G,hG⟩:=At w1.heap.size;obtain ⟨X,D⟩:=At w2.heap.size;have B1:w1.heap.size<=w2.heap.size:=R.size;have B7:g<X:=(by have:=O.lt;omega);have B9:H<=g:=oA;refine ag (fun A=>A.heap.size=X+1/\Own A H 5 1 (some ⟨G,0,none⟩) 0 len []/\Blk A g (fA 688 (cph key)) 233/\Blk A (H+1) (fA 12 nonce) 175/\Blk A X (fA 16 fun _=>0#8) 169/\Below H w A) ⟨by simp [D],by rw [hG];exact Own.alloc A3 _,(O.grown R skA).alloc _,(A8.grown R skA).alloc _,by rw [D];exact Blk.new _ _ _,(A2.grown R oA skA).alloc oA _⟩ ?_;rw [<-hG,<-D];have CK:H+2<=X:=oA;clear O A8 A2 A3 R B0 B1 hg hG D;rintro w3 ⟨S,hO,O,M,D,N⟩;have c:=Hd S;clear S;have q1:=Qu X;have q2:=Qv (H+1);refine cO X (.step 0 (.step 1 (.step 2 .done))) krA krA cdA ?_
 repeat refine txA ?_
 refine am rfl rfl rfA (fun K L=> ?_);refine gY (.tmp 23) (.tmp 24) 22 22 rfl underlying22 xi rfl rfl D.drew (cs:=fL 12 nonce) (by rw [dh];rfl) (av.src (vs:=fL 12 nonce) (av.mk M.drew.cells) 12|>fun h j v hv=>h j v (by rwa [VZ (by simp [dh])])) (by simp [dh,aH]) (by simp [fL,fv,Value.oneCell']) ?_;refine L _ _ (But.setRow _ _) ?_;clear L K q1 q2;refine aq ?_;rw [vc];go_wp2_with fail;rw [c.out];refine ag (fun A=>La w H g X (X+1) key nonce l 0 (some ⟨G,0,none⟩) len (fun j=>if j<12 then nonce j else 0#8) (fun _=>0#8) A) ?_ ?_
 .exact ⟨(hO.drew.setRow_apart D.drew dcA _).alloc _,(O.drew.setRow_other _ _ oA).alloc _,(D.drew.setRow _).alloc _,by have:=Blk.new (w3.drew.setRow X (fA 16 fun j=>if j<12 then nonce j else 0#8)) (fA 16 fun _=>0#8) 169;rwa [show (w3.drew.setRow X (fA 16 fun j=>if j<12 then nonce j else 0#8)).heap.size=X+1 from (by simpa [World.setRow] using c.out)] at this,(ak N.drew oA _).alloc (by simp [World.setRow];have:=c.out;omega) _⟩
 clear hO O M D N c;rintro w4 hin;obtain ⟨Y,hY⟩:=At (X+1);rw [<-hY] at hin⊢;have CW:X<Y:=oA;clear hY;go_loopg [9,28] len (NC w H g X Y key nonce l)
 case atStart=>
  have:=f.out;exact ⟨0,_,_,_,_,oA,rfl,rfl,fun j T=>by rw [Vz T],fun h=>absurd rfl h,hin⟩
 case round=>
  clear hin;obtain ⟨k,oa,oc,P,ys,F,rfl,rfl,q,r,hin⟩:=hrel;have U:=Hd F;have HX:=Hd q;have HY:=Hd r;by_cases B2:k<len
  .have tk:decide ((k:Int)<(len:Int))=true:=soA;have s:k<l.length:=(by rw [f.out];exact B2);clear F q r;obtain ⟨b,o,B3,A1⟩:=(hl.below (HH.out▸hin.below)).at oA;subst B3;have hc:wr.cell? ⟨b,o+k,none⟩=some (.int .u8 (B8 l[k].toBitVec)):=A1 k s;clear A1;by_cases A9:k%16=0
   .have t16:((k:Int)%16==0)=true:=soA;clear A9;go_wp2_with fail;clear t16;obtain ⟨g0,rfl⟩:∃g:Nat,g=gk:=⟨_,rfl⟩;go_loopg [36] 4 (QI w H g X Y key nonce l k oa oc P ys)
    case atStart=>exact ⟨0,oA,rfl,⟨hin.own,hin.cph,hin.x.ofF fun i hi=>by
     by_cases h:i<12
     .rw [Vz h,HX.out i h]
     .rw [VV h,VV oA],hin.y,hin.below⟩⟩
    case round=>
     clear hin hc;obtain ⟨m,F,rfl,hin⟩:=hrel;have E:=Hd F;have hcs:m=0\/m=1\/m=2\/m=3\/m=4:=oA;clear F;rcases hcs with rfl|rfl|rfl|rfl|rfl
     .have r1:=hin.x.rule;have f1:=hin.x.free;have I:=eT (n:=16) (i:=12) (fun i=>if i<12 then nonce i else if i<12+0 then ctr nonce (k/16) i else P i) oA;go_wp2_with fail;clear r1 f1 I;go_roundg (gk-1)
      case rel=>exact ⟨1,by have:=E.out;omega,rfl,hin.own.setCell_apart hin.x dcA _ _,hin.cph.other _ _ (by show g≠X;omega),uG oA oA hin.x (Na nonce k oA),hin.y.other _ _ (by show Y≠X;omega),hin.below.setCell (by show H<=X;omega) _⟩
      case measure=>have:=E.out;omega
     .have r1:=hin.x.rule;have f1:=hin.x.free;have I:=eT (n:=16) (i:=13) (fun i=>if i<12 then nonce i else if i<12+1 then ctr nonce (k/16) i else P i) oA;go_wp2_with fail;clear r1 f1 I;go_roundg (gk-1)
      case rel=>exact ⟨2,by have:=E.out;omega,rfl,hin.own.setCell_apart hin.x dcA _ _,hin.cph.other _ _ (by show g≠X;omega),uG oA oA hin.x (MZ nonce k oA),hin.y.other _ _ (by show Y≠X;omega),hin.below.setCell (by show H<=X;omega) _⟩
      case measure=>have:=E.out;omega
     .have r1:=hin.x.rule;have f1:=hin.x.free;have I:=eT (n:=16) (i:=14) (fun i=>if i<12 then nonce i else if i<12+2 then ctr nonce (k/16) i else P i) oA;go_wp2_with fail;clear r1 f1 I;go_roundg (gk-1)
      case rel=>exact ⟨3,by have:=E.out;omega,rfl,hin.own.setCell_apart hin.x dcA _ _,hin.cph.other _ _ (by show g≠X;omega),uG oA oA hin.x (MY nonce k oA),hin.y.other _ _ (by show Y≠X;omega),hin.below.setCell (by show H<=X;omega) _⟩
      case measure=>have:=E.out;omega
     .have r1:=hin.x.rule;have f1:=hin.x.free;have I:=eT (n:=16) (i:=15) (fun i=>if i<12 then nonce i else if i<12+3 then ctr nonce (k/16) i else P i) oA;go_wp2_with fail;clear r1 f1 I;go_roundg (gk-1)
      case rel=>exact ⟨4,by have:=E.out;omega,rfl,hin.own.setCell_apart hin.x dcA _ _,hin.cph.other _ _ (by show g≠X;omega),uG oA oA hin.x (by first|exact MX nonce k|exact Kx nonce k),hin.y.other _ _ (by show Y≠X;omega),hin.below.setCell (by show H<=X;omega) _⟩
      case measure=>have:=E.out;omega
     .have hin4:La w H g X Y key nonce l k oa oc (ctr nonce (k/16)) ys wr:=⟨hin.own,hin.cph,hin.x.ofF fun i hi=>Eg nonce _ i hi,hin.y,hin.below⟩;clear hin;have BY:=hin4.x;go_wp2_with (refine ap rfl 169 ee _ rfl rfl BY (aH _ _) ?_);refine (Bz g (ctr nonce (k/16)) key _ hin4.cph).mono ?_;rintro e w5 ⟨rfl,J⟩;clear BY;have d:=hin4.y.old J;go_upto_region 18 with (refine ae rfl 169 ee (.tmp 11) _ rfl rfl rfl d (aH _ _) (aH _ _) (fK _ _) ?_);refine ag (fun A=>La w H g X Y key nonce l k oa oc (ctr nonce (k/16)) (enc key (ctr nonce (k/16))) A) ⟨(hin4.own.old J).setRow_apart d dcA _,(hin4.cph.old J).setRow_other _ _ oA,(hin4.x.old J).setRow_other _ _ oA,d.setRow _,ak (hin4.below.trans (J.mono (by have:=hin4.x.lt;omega))) oA _⟩ ?_;clear hin4 J d;rintro V C;have hy:=C.y.atF (show k%16<16 by omega) rfl;have t:H<=V.heap.size:=(by have:=C.x.lt;omega);go_wp2_with (at_builtin;refine al rfl _ _ 22 rfl yr rfl (C.own.alloc _) rfl (av.new' _ _ _ _ skA) rfA (by exact de _ rfl) mxA oA soA ?_);intro B4 B5 w7 p A0;go_wp2_with fail;go_roundg (g0-1)
      case rel=>exact Co s U.out t (fun j T=>by rw [ctr,Vz T]) C p A0
      case measure=>have:=U.out;omega
   .have t16:((k:Int)%16==0)=false:=soA;have C:La w H g X Y key nonce l k oa oc P (enc key (ctr nonce (k/16))) wr:=⟨hin.own,hin.cph,hin.x,hin.y.ofF fun j T=>HY.out A9 j T,hin.below⟩;clear hin;obtain ⟨V,rfl⟩:∃V:World,V=wr:=⟨_,rfl⟩;have hy:=C.y.atF (show k%16<16 by omega) rfl;have t:H<=V.heap.size:=(by have:=C.x.lt;omega);go_wp2_with (at_builtin;refine al rfl _ _ 22 rfl yr rfl (C.own.alloc _) rfl (av.new' _ _ _ _ skA) rfA (by exact de _ rfl) mxA oA soA ?_);intro B4 B5 w7 p A0;go_wp2_with fail;go_roundg (gk-1)
    case rel=>exact Co s U.out t HX.out C p A0
    case measure=>have:=U.out;omega
  .have F:=U.out;have W:=f.out;have tk:decide ((k:Int)<(len:Int))=false:=soA;obtain rfl:k=len:=oA;clear F q r W;go_wp2_with fail;go_ret2;refine ⟨oa,oc,rfl,?_,HH.out▸hin.below⟩;have e:=f.out;rw [stm,e,<-HH.out];exact hin.own
end
section
open Go.RowKit
attribute [local go_sem] dD dE dV cG
theorem uF (nonce:Nat->BitVec 8) (q m p:Nat) (A:p=2^(24-8*m)):B8 (ctr nonce q (12+m))=((q/p%256:Nat):Int):=by
 rw [ctr,VV oA,show 12+m-12=m by omega,<-A];show (((BitVec.ofNat 8 (q/p)).toNat:Nat):Int)=_;rw [Wi]
theorem Nf (nonce:Nat->BitVec 8) (q:Nat) (_h:q<4096):(q:Int)/16777216=B8 (ctr nonce q (12+0)):=by rw [uF nonce q 0 16777216 rfl];omega
theorem Nd (nonce:Nat->BitVec 8) (q:Nat) (_h:q<4096):(q:Int)/65536=B8 (ctr nonce q (12+1)):=by rw [uF nonce q 1 65536 rfl];omega
theorem Nc (nonce:Nat->BitVec 8) (q:Nat) (_h:q<4096):(q:Int)/256=B8 (ctr nonce q (12+2)):=by rw [uF nonce q 2 256 rfl];omega
theorem Nb (nonce:Nat->BitVec 8) (q:Nat):(q:Int)%256=B8 (ctr nonce q (12+3)):=by rw [uF nonce q 3 1 rfl];omega
theorem pu {wr:As} {X q m:Nat} {nonce C:Nat->BitVec 8} {z:Int} (F:m<4) (h:Blk wr X (fA 16 (fun i=>if i<12 then nonce i else if i<12+m then ctr nonce q i else C i)) 169)
  (E:z=B8 (ctr nonce q (12+m))):Blk (wr.setCell ⟨X,12+m,none⟩ (.int .u8 z)) X (fA 16 (fun i=>if i<12 then nonce i else if i<12+(m+1) then ctr nonce q i else C i)) 169:=by
 subst E;refine (h.setF oA (ctr nonce q (12+m))).ofF fun i G=> ?_;by_cases e:i=12+m
 .subst e;rw [Vz rfl,VV oA,Vz oA]
 .rw [VV e];by_cases A:i<12
  .rw [Vz A,Vz A]
  .rw [VV A,VV A];by_cases D:i<12+m
   .rw [Vz D,Vz oA]
   .rw [VV D,VV oA]
structure uN (w:As) (H Xb:Nat) (key nonce:Nat->BitVec 8) (l:Le) (k:Nat) (oa:Lt) (oc:Nat) (wr:As):Prop where
 bkey:Blk wr H (fA 16 key) 169
 bnonce:Blk wr (H+1) (fA 12 nonce) 175
 box:Blk wr Xb (fA 256 sO) 230
 own:Own wr H 5 1 oa k oc ((stk key nonce l k).map bv)
 below:Below H w wr
section
variable {w:As} {H Xb:Nat} {key nonce:Nat->BitVec 8} {l:Le} {k:Nat} {oa:Lt} {oc:Nat} {wr wq:As}
theorem uN.old (h:uN w H Xb key nonce l k oa oc wr) (A:Below wr.heap.size wr wq):uN w H Xb key nonce l k oa oc wq:=
 ⟨h.bkey.old A,h.bnonce.old A,h.box.old A,h.own.old A,h.below.trans (A.mono (by have:=h.bkey.lt;omega))⟩
theorem uN.far (h:uN w H Xb key nonce l k oa oc wr) {T:Nat} {cs:AS} {t:TypeId} (A:Blk wr T cs t) (C:t≠5) (D:H+1<T) (E:T≠Xb) (i:Nat) (v:Value):uN w H Xb key nonce l k oa oc (wr.setCell ⟨T,i,none⟩ v):=
 ⟨h.bkey.other _ _ (by show H≠T;omega),h.bnonce.other _ _ (by show H+1≠T;omega),h.box.other _ _ (by show Xb≠T;omega),h.own.setCell_apart A C _ _,h.below.setCell (by show H<=T;omega) _⟩
theorem uN.farRow (h:uN w H Xb key nonce l k oa oc wr) {T:Nat} {cs:AS} {t:TypeId} (C:Blk wr T cs t) (D:t≠5) (E:H+1<T) (F:T≠Xb) (A:AS):uN w H Xb key nonce l k oa oc (wr.setRow T A):=
 ⟨h.bkey.setRow_other _ _ oA,h.bnonce.setRow_other _ _ oA,h.box.setRow_other _ _ oA,h.own.setRow_apart C D _,ak h.below oA _⟩
end
def Rs1 (w:As) (H Xb:Nat) (key nonce:Nat->BitVec 8) (l:Le) (f:Nat) (o i:Value) (wr:As):Prop:=
 ∃(m A k:Nat) (oa:Lt) (oc:Nat),f+m=(l.length+15)/16/\A=16*m/\k=min A l.length/\i= .int .i64 (A:Int)/\o= .slice oa k oc/\uN w H Xb key nonce l k oa oc wr
def Rs2 (w:As) (H Xb X:Nat) (key nonce:Nat->BitVec 8) (l:Le) (k:Nat) (oa:Lt) (oc:Nat) (f:Nat) (i:Value) (wr:As):Prop:=
 ∃q:Nat,f+q=12/\i= .int .i64 (q:Int)/\uN w H Xb key nonce l k oa oc wr/\Blk wr X (fA 16 fun j=>if j<q then nonce j else 0#8) 169
def Rs3 (w:As) (H Xb X m:Nat) (key nonce:Nat->BitVec 8) (l:Le) (k:Nat) (oa:Lt) (oc:Nat) (f:Nat) (i:Value) (wr:As):Prop:=
 ∃q:Nat,f+q=4/\i= .int .i64 (q:Int)/\uN w H Xb key nonce l k oa oc wr/\Blk wr X (fA 16 fun j=>if j<12 then nonce j else if j<12+q then ctr nonce m j else 0#8) 169
def Rs4 (w:As) (H Xb Y m A:Nat) (key nonce:Nat->BitVec 8) (l:Le) (f:Nat) (o i:Value) (wr:As):Prop:=
 ∃(k:Nat) (oa:Lt) (oc:Nat),f+k=min (A+16) l.length/\A<=k/\i= .int .i64 (k:Int)/\o= .slice oa k oc/\uN w H Xb key nonce l k oa oc wr/\Blk wr Y (fA 16 (enc key (ctr nonce m))) 169
theorem Jh {w:As} {H Xb Y:Nat} {key nonce:Nat->BitVec 8} {l:Le} {k:Nat} {oa E:Lt} {oc F:Nat} {ys:Nat->BitVec 8} {A C:As} (J:k<l.length) (L:H<=A.heap.size)
  (hin:uN w H Xb key nonce l k oa oc A) (M:Blk A Y (fA 16 ys) 169) {cs:AS} {ty:TypeId} {v:BitVec 8}
  (I:Own C H 5 1 E (k+1) F ((stk key nonce l k).map bv++ [.int .u8 (B8 (l[k].toBitVec^^^v))]))
  (G:(A.alloc (.cells cs ty)).grownBy C (Value.slice oa k oc).ownBlock) (N:ksb key nonce k=v):uN w H Xb key nonce l (k+1) E F C/\Blk C Y (fA 16 ys) 169:=by
 have O:l.getD k 0=l[k]:=(by rw [VG,VJ J];rfl);have D:=cI.grown (hin.own.alloc (.cells cs ty)) G;refine ⟨⟨(hin.bkey.alloc _).keepNot D dcA,(hin.bnonce.alloc _).keepNot D dcA,(hin.box.alloc _).keepNot D dcA,?_,(hin.own.alloc _).grown (hin.below.alloc L _) (VU _) G soA⟩,(M.alloc _).keepNot D dcA⟩;rw [yT,VF,O,N];exact I
theorem qj (key nonce:Nat->BitVec 8) (a:Lt) (len cap:Nat) (l:Le) (w:As) (hl:aj w a l) (F:l.length=len) (hm:len<=65536):
  Calls prog 156 #[.agg (fA 16 key),.agg (fA 12 nonce),.slice a len cap] w fun e w'=>∃a' c',e= .returned (.tuple #[.slice a' len c',.int .i64 0])/\Own w' w.heap.size 5 1 a' len c' ((stm key nonce l).map bv)/\Below w.heap.size w w':=by
 have t1:decide ((65536:Int)<(len:Int))=false:=soA;have U:=Hd F;have A9:=Hd (kM BJ);clear F;go_enter func156,ntmps156;go_upto_region 3 with fail;refine ag (fun I=>Blk I w.heap.size (fA 16 key) 169/\Blk I (w.heap.size+1) (fA 12 nonce) 175/\Below w.heap.size w I) ⟨Blk.new2 _ _ _ _,Blk.new2' _ _ _ _,cL⟩ ?_;rintro w0 ⟨G,S,V⟩;obtain ⟨H,y⟩:=At w.heap.size;rw [<-y] at G S V⊢;have f:=Hd y;clear y;go_wp2_with fail;refine (AD _).mono ?_;rintro e w1 ⟨rfl,Z⟩;replace V:=V.trans (Z.mono (by have:=G.lt;omega));replace G:=G.old Z;replace S:=S.old Z;clear Z;have BY:=A9.out;go_upto_region 5 with (refine ae rfl 230 sV (.tmp 8) _ (cells:=fA 256 sO) rfl rfl rfl (Blk.new _ _ _) (aH _ _) (aH _ _) (fK _ _) ?_);clear BY;obtain ⟨Xb,A1⟩:=At w1.heap.size;have B9:H+1<Xb:=(by have:=S.lt;omega);have r:=Blk.new w1 (fA 256 fun _=>0#8) 230;rw [<-A1] at r⊢;refine ag (fun I=>uN w H Xb key nonce l 0 none 0 I) ⟨(G.alloc _).setRow_other _ _ oA,(S.alloc _).setRow_other _ _ oA,r.setRow _,Own.nil _ _ _ _,ak (V.alloc oA _) oA _⟩ ?_;clear G S V A1 r;rintro w2 C;go_wp2_with fail;go_loopg [9,10] ((l.length+15)/16) (Rs1 w H Xb key nonce l)
 case atStart=>exact ⟨0,0,0,_,_,oA,rfl,oA,rfl,rfl,C⟩
 case round=>
  clear C;obtain ⟨m,A,k,oa,oc,E,N,hk,rfl,rfl,C⟩:=hrel;have F:=U.out;by_cases CK:A<len
  .have tk:decide ((A:Int)<(len:Int))=true:=soA;obtain rfl:k=A:=oA;have p:=Hd E;have O:=Hd N;clear E hk N F;obtain ⟨g0,rfl⟩:∃g:Nat,g=gk:=⟨_,rfl⟩;obtain ⟨X,T⟩:=At wr.heap.size;have CW:Xb<X:=(by have:=C.box.lt;omega);go_wp2_with fail;refine ag (fun I=>uN w H Xb key nonce l k oa oc I/\Blk I X (fA 16 fun _=>0#8) 169) ⟨C.old ((VW _ _).alloc (VU _) _),by rw [T];exact Blk.new _ _ _⟩ ?_;rw [<-T];clear C T;rintro w3 ⟨C,D⟩;go_loopg [12] 12 (Rs2 w H Xb X key nonce l k oa oc)
   case atStart=>exact ⟨0,oA,rfl,C,by simpa using D⟩
   case round=>
    clear C D;obtain ⟨q,E,rfl,C,D⟩:=hrel;by_cases hq:q<12
    .have tq:decide ((q:Int)<12)=true:=soA;have A2:=Hd E;clear E;have C0:(q:Int)<12:=oA;have c0:=C.bnonce.atF hq (show nonce q=nonce q from rfl);have r3:=D.rule;have f3:=D.free;have B0:=eT (fun j=>if j<q then nonce j else 0#8) (show q<16 by omega);go_wp2_with fail;clear r3 f3 B0 c0;go_roundg (gk-1)
     case rel=>
      have E:=A2.out;exact ⟨q+1,oA,gnA,C.far D dcA oA oA _ _,(D.setF oA (nonce q)).ofF fun i _=>Wv (ft q nonce fun _=>0#8) i⟩
     case measure=>have E:=A2.out;omega
    .obtain rfl:q=12:=oA;have tq:decide (((12:Nat):Int)<12)=false:=skA;clear E;have B1:(k:Int)/16=(m:Int):=(by have:=O.out;omega);have C3:(m:Int)<4096:=(by have:=O.out;omega);go_wp2_with fail;clear B1;go_loopg [14] 4 (Rs3 w H Xb X m key nonce l k oa oc)
     case atStart=>exact ⟨0,oA,rfl,C,D.ofF fun i _=>by
      by_cases h:i<12
      .rw [Vz h,Vz h]
      .rw [VV h,VV h,VV oA]⟩
     case round=>
      clear C D;obtain ⟨q,E,rfl,C,D⟩:=hrel;have J:=Hd E;have hcs:q=0\/q=1\/q=2\/q=3\/q=4:=oA;clear E;rcases hcs with rfl|rfl|rfl|rfl|rfl
      .have r1:=D.rule;have f1:=D.free;have P:=eT (n:=16) (i:=12) (fun j=>if j<12 then nonce j else if j<12+0 then ctr nonce m j else 0#8) oA;go_wp2_with fail;clear r1 f1 P;go_roundg (gk-1)
       case rel=>exact ⟨1,by have:=J.out;omega,rfl,C.far D dcA oA oA _ _,pu oA D (Nf nonce m oA)⟩
       case measure=>have:=J.out;omega
      .have r1:=D.rule;have f1:=D.free;have P:=eT (n:=16) (i:=13) (fun j=>if j<12 then nonce j else if j<12+1 then ctr nonce m j else 0#8) oA;go_wp2_with fail;clear r1 f1 P;go_roundg (gk-1)
       case rel=>exact ⟨2,by have:=J.out;omega,rfl,C.far D dcA oA oA _ _,pu oA D (Nd nonce m oA)⟩
       case measure=>have:=J.out;omega
      .have r1:=D.rule;have f1:=D.free;have P:=eT (n:=16) (i:=14) (fun j=>if j<12 then nonce j else if j<12+2 then ctr nonce m j else 0#8) oA;go_wp2_with fail;clear r1 f1 P;go_roundg (gk-1)
       case rel=>exact ⟨3,by have:=J.out;omega,rfl,C.far D dcA oA oA _ _,pu oA D (Nc nonce m oA)⟩
       case measure=>have:=J.out;omega
      .have r1:=D.rule;have f1:=D.free;have P:=eT (n:=16) (i:=15) (fun j=>if j<12 then nonce j else if j<12+3 then ctr nonce m j else 0#8) oA;go_wp2_with fail;clear r1 f1 P;go_roundg (gk-1)
       case rel=>exact ⟨4,by have:=J.out;omega,rfl,C.far D dcA oA oA _ _,pu oA D (Nb nonce m)⟩
       case measure=>have:=J.out;omega
      .replace D:=D.ofF (t:=ctr nonce m) fun i hi=>Eg nonce (fun _=>0#8) i hi;have G:=C.bkey;have T:=C.box;go_wp2_with (first|refine ap rfl 169 ee (.tmp 3) rfl rfl G (aH _ _) ?_|refine ap rfl 169 ee (.tmp 11) rfl rfl D (aH _ _) ?_|refine ap rfl 230 sV _ rfl rfl T (aH _ _) ?_);refine (FB key (ctr nonce m) _).mono ?_;rintro e w4 ⟨rfl,A3⟩;replace C:=C.old A3;clear G T A3 D;go_upto_region 20 with (refine ae rfl 169 ee (.tmp 15) _ (cells:=fA 16 (enc key (ctr nonce m))) rfl rfl rfl (Blk.new _ _ _) (aH _ _) rfl (fK _ _) ?_);obtain ⟨Y,L⟩:=At w4.heap.size;have C4:Xb<Y:=(by have:=C.box.lt;omega);have c:=Blk.new w4 (fA 16 fun _=>0#8) 169;rw [<-L] at c⊢;refine ag (fun I=>uN w H Xb key nonce l k oa oc I/\Blk I Y (fA 16 (enc key (ctr nonce m))) 169) ⟨(C.old ((VW _ _).alloc (VU _) _)).farRow c dcA oA oA _,c.setRow _⟩ ?_;clear C c L;rintro w5 ⟨C,L⟩;go_loopg [9,16] (min (k+16) l.length-k) (Rs4 w H Xb Y m k key nonce l)
       case atStart=>exact ⟨k,oa,oc,by have:=U.out;omega,oA,rfl,rfl,C,L⟩
       case round=>
        clear C L;obtain ⟨j,oa,oc,E,C5,rfl,rfl,C,L⟩:=hrel;by_cases hj:j<len
        .have tj:decide ((j:Int)<(len:Int))=true:=soA;by_cases C6:j<k+16
         .have tj2:decide ((j:Int)<(k:Int)+16)=true:=soA;have s:j<l.length:=(by rw [U.out];exact hj);have A4:=Hd E;clear E;obtain ⟨b,o,B2,A0⟩:=(hl.below (f.out▸C.below)).at oA;subst B2;have A5:w.cell? ⟨b,o+j,none⟩=some (.int .u8 (B8 l[j].toBitVec)):=by
           obtain ⟨b',o',e1,h1⟩:=hl j (by simpa using s);cases e1;simp [bv] at h1;exact h1
          have B3:b<H:=(by rw [f.out];exact Vx w _ A5);have hc:wr.drew.cell? ⟨b,o+j,none⟩=some (.int .u8 (B8 l[j].toBitVec)):=A0 j s;obtain ⟨d,hd⟩:=At (j-k);have A8:d<16:=oA;have C7:(d:Int)<16:=oA;have e1:IntKind.i64.wrap ((j:Int)-(k:Int))=(d:Int):=(by rw [VD _ oA];omega);have C8:(j:Int)<(len:Int):=oA;have C1:∀W,Rx H 5 wr.drew W->W.cell? ⟨b,o+j,none⟩=some (.int .u8 (B8 l[j].toBitVec)):=fun W h=>h.cell B3 hc;have C2:∀W,Rx H 5 wr.drew W->W.cell? ⟨Y,d,none⟩=some (.int .u8 (B8 (enc key (ctr nonce m) d))):=fun W h=>(h.blk L.drew dcA).atF A8 rfl;have HD:=Hd hd;clear hd hc A0 A5;go_wp2_with fail;refine gz H 5 (.step 0 (.step 1 (.step 2 (.step 3 (.step 4 (.step 5 (.step 6 (.step 7 (.step 8 (.step 9 (.step 10 (.step 11 (.step 12 (.step 13 .done)))))))))))))) krA krA cdA ?_
          repeat refine txA ?_
          have A6:H<=wr.heap.size:=(by have:=C.bkey.lt;omega);refine am rfl rfl rfA (fun K G=> ?_);go_wp2_with fail;refine G _ _ (Rx.alloc wr.drew A6 _) ?_;clear G K;refine am rfl rfl rfA (fun K G=> ?_);refine eF (.tmp 70) (.tmp 81) 22 rfl yr rfl (C.own.drew.alloc _) rfl (av.new' _ _ _ _ skA) rfA (by exact de _ rfl) mxA oA soA ?_;intro B4 B5 w7 A7 R;refine G _ _ (Rx.grown (C.own.drew.alloc _) (VU _) soA R) ?_;clear G K
          repeat refine txA ?_
          refine aq ?_;go_wp2_with fail;go_roundg (gk-1)
          case rel=>
           have E:=A4.out;obtain ⟨B6,B7⟩:=Jh (cs:= #[.int .u8 (B8 (l[j].toBitVec^^^enc key (ctr nonce m) d))]) (ty:=5) s A6 C L A7 ⟨R.os,R.tape,R.output,R.size,R.block⟩ (by rw [ksb];have:=O.out;have:=HD.out;rw [show j/16=m by omega,show j%16=d by omega]);exact ⟨j+1,B4,B5,oA,oA,gnA,rfl,B6,B7⟩
          case measure=>have E:=A4.out;omega
         .have tj2:decide ((j:Int)<(k:Int)+16)=false:=soA;have F:=U.out;obtain rfl:j=k+16:=oA;clear E;have M:=Hd F;clear F;go_wp2_with fail;go_roundg (g0-1)
          case rel=>
           have E:=p.out;have N:=O.out;have F:=M.out;exact ⟨m+1,k+16,k+16,oa,oc,oA,oA,oA,gnA,rfl,C⟩
          case measure=>have E:=p.out;have N:=O.out;have F:=M.out;omega
        .have tj:decide ((j:Int)<(len:Int))=false:=soA;have F:=U.out;obtain rfl:len=j:=oA;have C9:len<=k+16:=oA;clear E;have M:=Hd F;clear F;go_wp2_with fail;go_roundg (g0-1)
         case rel=>
          have E:=p.out;have N:=O.out;have F:=M.out;exact ⟨m+1,k+16,len,oa,oc,oA,oA,oA,gnA,rfl,C⟩
         case measure=>have E:=p.out;have N:=O.out;have F:=M.out;omega
  .have tk:decide ((A:Int)<(len:Int))=false:=soA;obtain rfl:len=k:=oA;clear E N hk;have M:=Hd F;clear F;go_wp2_with fail;go_ret2;refine ⟨oa,oc,rfl,?_,f.out▸C.below⟩;rw [stm,M.out,<-f.out];exact C.own
end
section
open Go.RowKit
def ko:Le:=[99,105,112,104,101,114]
def Hq:Le:=[116,97,103]
def KD (m:Le) (g i:Nat):UInt8:=dgb (we m (ry ko 6 g)) i
def Hi (m:Le) (g i:Nat):UInt8:=dgb (we m (ry Hq 3 g)) i
def ckB (m:Le) (g:Nat):Nat->BitVec 8:=fun i=>(KD m g i).toBitVec
def tkL (m:Le) (g:Nat):Le:=(List.range 32).map (Hi m g)
def vO (g n:Nat):Le:=(eY g).drop 4++eY n
def oS (g n:Nat):Nat->BitVec 8:=fun i=>((vO g n).getD i 0).toBitVec
def kp (m:Le) (g n:Nat) (c:Le):Le:=we (tkL m g) (eY g++eY n++c)
def fM (m:Le) (g n:Nat) (b:Le):Le:=stm (ckB m g) (oS g n) b++dgl (kp m g n (stm (ckB m g) (oS g n) b))
def nH (x:Int):Int:=if x<0\/65504<x then 0 else x+32
theorem nA (m:Le) (g:Nat):(tkL m g).length=32:=by simp [tkL]
theorem jh (g n:Nat):(vO g n).length=12:=by simp [vO,aM]
theorem tA (x:Int) (E: -9223372036854775808<=x) (F:x<=9223372036854775807) (w:As):Calls prog 111 #[.int .i64 x] w fun e w'=>e= .returned (.int .i64 (nH x))/\w=w':=by
 obtain ⟨S,C⟩:=At (nH x);rw [<-C];have D:=Hd C;clear C;by_cases a:x<0
 .have t1:decide (x<0)=true:=VK a;have e:S=0:=(by rw [D.out,nH,Vz (.inl a)]);have A:=Hd e;clear e;go_enter func111,ntmps111;go_wp2_with fail;go_ret;exact ⟨by rw [A.out];rfl,rfl⟩
 .have t1:decide (x<0)=false:=VO a;by_cases b:65504<x
  .have t2:decide (65504<x)=true:=VK b;have e:S=0:=(by rw [D.out,nH,Vz (.inr b)]);have A:=Hd e;clear e;go_enter func111,ntmps111;go_wp2_with fail;go_ret;exact ⟨by rw [A.out];rfl,rfl⟩
  .have t2:decide (65504<x)=false:=VO b;have e:S=x+32:=(by rw [D.out,nH,VV oA]);have A:=Hd e;clear e;have G:0<=x:=oA;have I:x<=65504:=oA;go_enter func111,ntmps111;go_wp2_with fail;go_ret;exact ⟨by rw [A.out];rfl,rfl⟩
theorem AX {a b c:As} {x y:Option Nat} (h:a.grownBy b x) (k:b.grownBy c y) (D:y=x\/y=none\/∃g,y=some g/\a.heap.size<=g):a.grownBy c x:=
 ⟨k.os.trans h.os,k.tape.trans h.tape,k.output.trans h.output,Vd h.size k.size,fun i A C=>(k.block i (VP A h.size) (by
  rcases D with rfl|rfl|⟨g,rfl,E⟩
  .exact C
  .simp
  .simp;omega)).trans (h.block i A C)⟩
theorem Bn (n t:Nat) (h:t<8):(eY n).take (t+1)=(eY n).take t++ [jm n t]:=by
 rw [Vj (by rw [aM];exact h)];simp [eY]
theorem qGrowAlloc {a b:As} {x:Option Nat} (h:a.grownBy b x) (o:Obj):a.grownBy (b.alloc o) x:=nP h o
def Se1 (w:As) (B n0 g:Nat) (l:Le) (a0:Lt) (c0:Nat) (f:Nat) (v i:Value) (wr:As):Prop:=
 ∃(t:Nat) (a:Lt) (c:Nat),f+t=8/\i= .int .i64 (56-8*(t:Int))/\v= .slice a (n0+t) c/\Mid wr B 5 a (n0+t) c ((l++(eY g).take t).map bv)/\w.grownBy wr (bI a0 c0)/\(bI a c=bI a0 c0\/∃b,bI a c=some b/\w.heap.size<=b)
def SeP (w:As) (B n0 g:Nat) (l:Le) (a0:Lt) (c0:Nat) (e:Ending) (w':As):Prop:=
 ∃(a:Lt) (c:Nat),e= .returned (.slice a (n0+8) c)/\Mid w' B 5 a (n0+8) c ((l++eY g).map bv)/\w.grownBy w' (bI a0 c0)/\(bI a c=bI a0 c0\/∃b,bI a c=some b/\w.heap.size<=b)
theorem ly (B n0 g:Nat) (l:Le) (A:Lt) (C:Nat) (w:As) (s:g<18446744073709551616) (X:Mid w B 5 A n0 C (l.map bv)) (y:B<=w.heap.size) (hn:n0<=100000):
  Calls prog 142 #[.slice A n0 C,.int .u64 (g:Int)] w (SeP w B n0 g l A C):=by
 have q:(g:Int)<=18446744073709551615:=oA;have r:(0:Int)<=(g:Int):=oA;have S:Se1 w B n0 g l A C 8 (.slice A n0 C) (.int .i64 56) w:=⟨0,A,C,oA,rfl,rfl,by simpa using X,Wd _ _,.inl rfl⟩;clear X;go_enter func142,ntmps142;go_wp2_with fail;go_loopg [0,5] 8 (Se1 w B n0 g l A C)
 case atStart=>exact S
 case round=>
  clear S;obtain ⟨t,a,c,Y,rfl,rfl,L,F,T⟩:=hrel;have M:=Hd Y;have G:=Hd T;have hs:=F.size;clear Y T;by_cases j:t<8
  .obtain ⟨Z,I⟩:=At (t+1);have n:=Hd (I▸Bn g t j:(eY g).take Z=(eY g).take t++ [jm g t]);have D:=Hd I;have N:=Hd fun p=>uI g t p;clear I;have o:t=0\/t=1\/t=2\/t=3\/t=4\/t=5\/t=6\/t=7:=oA;rcases o with rfl|rfl|rfl|rfl|rfl|rfl|rfl|rfl
   all_goals
    go_wp2_with (at_builtin;refine dq rfl (.tmp 10) (.tmp 16) 22 rfl dS rfl (L.alloc _) rfl (av.new' _ _ _ _ skA) rfA (by exact de _ rfl) mxA oA soA ?_)
    intro O P w5 J U V
    have e:=AX (qGrowAlloc F _) U (by
     rcases G.out with h|⟨b,h,d⟩
     .exact .inl h
     .exact .inr (.inr ⟨b,h,d⟩))
    have W:bI O P=bI A C\/∃b,bI O P=some b/\w.heap.size<=b:=by
     rcases V with h|⟨b,h,d⟩
     .rw [h];exact G.out
     .exact .inr ⟨b,h,oA⟩
    have f:=Hd W
    clear U V W
    go_wp2_with fail
    go_roundg (gk-1)
    case rel=>
     refine ⟨Z,O,P,by have:=M.out;have:=D.out;omega,by rw [D.out];rfl,by rw [D.out],?_,e,f.out⟩
     rw [n.out,<-Vf,D.out]
     first
      |(have E:=N.out _ rfl;simp only [VF,WG,XP,bv];rw [<-E];simpa [bv] using J)
      |(have E:=N.out 72057594037927936 rfl;have R:(g:Int)/72057594037927936=U8 (jm g 0):=by {rw [<-E];omega};simpa [bv,R] using J)
      |(have E:=N.out 1 rfl;have R:(g:Int)%256=U8 (jm g 7):=by {rw [<-E];omega};simpa [bv,R] using J)
    case measure=>have:=M.out;omega
  .obtain rfl:t=8:=(by have:=M.out;omega);rw [VZ (by rw [aM];omega)] at L;go_wp2_with fail;go_ret;exact ⟨a,c,rfl,L,F,G.out⟩
theorem AM (s:ByteArray) (M G:Nat) (A:Lt) (C J:Nat) (m:Le) (g:Nat) (w:As) (o:s.size<=100) (D:Blk w M #[.slice A C J] 22) (E:Blk w G #[.int .u64 (g:Int)] 105) (F:aj w A m) (S:m.length=C) (b:C<140737488352000) (d:g<18446744073709551616):
  Calls prog 138 #[.string s,.pointer (some ⟨M,0,none⟩),.pointer (some ⟨G,0,none⟩)] w (wQ w m (ry (kL s) s.size g)):=by
 have f:=Hd S;obtain ⟨H,P⟩:=At w.heap.size;have Y:=Hd P;have L:=Blk.new w (vA 32 fun _=> .int .u8 0) 170;have N:=(VW w.heap.size w).alloc (VU _) (.cells (vA 32 fun _=> .int .u8 0) 170);rw [<-P] at L N;have T:=D.alloc (.cells (vA 32 fun _=> .int .u8 0) 170);have U:=E.alloc (.cells (vA 32 fun _=> .int .u8 0) 170);have V:=F.alloc (.cells (vA 32 fun _=> .int .u8 0) 170);clear S P D E F;go_enter func138,ntmps138;go_upto_region 1 with fail;rw [<-Y.out];refine ag (fun I=>Blk I H (vA 32 fun _=> .int .u8 0) 170/\Blk I M #[.slice A C J] 22/\Blk I G #[.int .u64 (g:Int)] 105/\aj I A m/\Below H w I) ⟨L,T,U,V,N⟩ ?_;clear L T U V N;rintro w1 ⟨R,D,E,F,Z⟩;have j:w1.cell? ⟨M,0,none⟩=some (.slice A C J):=D.cell rfl;have n:w1.cell? ⟨G,0,none⟩=some (.int .u64 (g:Int)):=E.cell rfl;have W:=R.lt;go_wp2_with fail;refine (FT m A C J s g _ F f.out b oA d).mono ?_;unfold wQ;rintro e p ⟨rfl,O⟩;have X:=R.old O;have c:=Z.trans (O.mono (XH W));clear R D E F Z j n O W;go_wp2_with (refine ae rfl 170 fX (.tmp 4) _ (cells:=mcA m (ry (kL s) s.size g)) rfl rfl rfl X (ay _ _) (ay _ _) (dF fun _ _=>rfl) ?_);exact cT rfl fX rfl (X.setRow _) (ay _ _) rfl ⟨rfl,Y.out▸ak c (VU _) _⟩
def KK (m:Le) (g:Nat) (i:Nat):Value:=if i<16 then .int .u8 (B8 (ckB m g i)) else if i<48 then bv (Hi m g (i-16)) else .int .u64 (g:Int)
def fZ (w:As) (B:Nat) (m:Le) (g:Nat):Prop:=Blk w B (vA 49 (KK m g)) 174
section
variable {w w':As} {B:Nat} {m:Le} {g:Nat}
theorem fZ.old (h:fZ w B m g) (A:Below w.heap.size w w'):fZ w' B m g:=Blk.old h A
theorem fZ.keep (h:fZ w B m g) {H:Nat} (A:B<H) (C:Below H w w'):fZ w' B m g:=Blk.below h C A
theorem fZ.game (h:fZ w B m g):w.cell? ⟨B,48,none⟩=some (.int .u64 (g:Int)):=Blk.atV h oA (by simp [KK])
theorem fZ.tag (h:fZ w B m g):aj w (some ⟨B,16,none⟩) (tkL m g):=by
 refine av.mk fun i A=> ?_;rw [lmA,nA] at A;rw [Blk.atV h (show 16+i<49 by omega) rfl,KK,VV oA,Vz oA];simp [tkL]
theorem fZ.cipher (h:fZ w B m g):∀j (A:j<(fL 16 (ckB m g)).length),w.cell? ⟨B,0+j,none⟩=some (fL 16 (ckB m g))[j]:=by
 intro j A;have C:j<16:=(by simpa [fL] using A);rw [VN,Blk.atV h (show j<49 by omega) rfl,KK,Vz C];simp [fL,fv]
end
def Ls (w:As) (g n:Nat) (e:Ending) (w':As):Prop:=e= .returned (.agg (fA 12 (oS g n)))/\Below w.heap.size w w'
theorem Ht:Tryz.prog.arrayLen 175=12:=by kernel_rfl
theorem Ec:Tryz.prog.elem 175=5:=by kernel_rfl
theorem Np:Tryz.prog.underlying 175=some (.array (Tryz.prog.arrayLen 175) (Tryz.prog.elem 175)):=by rw [Ht,Ec];exact underlying175
theorem Nt (b:Nat) (W:As):(Instr.sliceAt 175 (.pointer (some ⟨b,0,none⟩)) none none none).run prog W= .ok (.slice (some ⟨b,0,none⟩) 12 12) W:=by
 rw [WD W _ _ Np,Ec,eI jI,Ht];simp [slicedAt];rfl
theorem BK:(Tryz.prog.info? 175).bind (·.zero)=some (.agg (vA 12 fun _=> .int .u8 0)):=by kernel_rfl
theorem nonA (g n:Nat):(vA 12 fun i=>bv ((vO g n).getD i 0))=fA 12 (oS g n):=by
 unfold vA vL fA fL;congr 1
theorem vM (B:Nat) (m:Le) (g n:Nat) (w:As) (D:fZ w B m g) (hg:g<18446744073709551616) (hn:n<18446744073709551616):
  Calls prog 113 #[.pointer (some ⟨B,0,none⟩),.int .u64 (n:Int)] w (Ls w g n):=by
 obtain ⟨H,L⟩:=At w.heap.size;have HH:=Hd L;have o:=D.lt;rw [<-L] at o;have R:=Blk.new w (vA 12 fun _=> .int .u8 0) 175;have S:=(VW w.heap.size w).alloc (VU _) (.cells (vA 12 fun _=> .int .u8 0) 175);rw [<-L] at R S;have p:=D.old ((VW w.heap.size w).alloc (VU _) (.cells (vA 12 fun _=> .int .u8 0) 175));have hz:=jq BK;clear L D;go_enter func113,ntmps113;go_upto_region 1 with fail;clear hz;rw [<-HH.out];refine ag (fun E=>Blk E H (vA 12 fun _=> .int .u8 0) 175/\fZ E B m g/\Below H w E) ⟨R,p,S⟩ ?_;clear R p S;rintro w1 ⟨C,D,M⟩;have q1:=Nt H;have C0:Hid (∀W,oX H w1.drew W->W.cell? ⟨B,48,none⟩=some (.int .u64 (g:Int))):=Hd fun W F=>(fZ.keep (w:=w1.drew) D o F).game;have f:=C.lt;refine lN H (0::1::2::3::4::7::5::6::8::9::[]) krA krA cdA ?_
 repeat (first|(refine ij (v:= ?_) rfl rfl rfA ?_ ?_;rotate_left;(intro W F;go_simp);(try with_reducible rfl);simp only [Act.put,sTA,List.set])|(refine mX rfl rfA ?_;simp only [Act.put,sTA,List.set]))
 refine ij (v:= .int .u64 (g:Int)) rfl rfl rfA (fun W F=>by have:=C0.out W F;go_simp) ?_;simp only [Act.put,sTA,List.set]
 repeat (first|(refine ij (v:= ?_) rfl rfl rfA ?_ ?_;rotate_left;(intro W F;go_simp);(try with_reducible rfl);simp only [Act.put,sTA,List.set])|(refine mX rfl rfA ?_;simp only [Act.put,sTA,List.set]))
 refine ix rfl rfl rfA (fun K A=> ?_);go_wp2_with fail;refine (ly (H+1) 0 g [] none 0 _ hg (Mid.nil' _ _ _) (by exact f) oA).mono ?_;rintro e G ⟨I,c2,rfl,T,J,A6⟩;go_wp2_with fail;have U:oX H w1.drew G:=(VW H w1.drew).grown J (XH f) (by simp [bI]);refine A _ _ U ?_;clear A K;have q:=C.drew.grown J (by simp [bI]);have A7:=T.le;have s:=T.cut 4 oA;have A3:(eY g).length=8:=aM g;refine ij (v:= .slice (lF I c2 4) 4 (c2-4)) rfl rfl rfA (fun W F=>by
  have:=oq (P:=prog) underlying22 jI I 8 c2 4 oA W;unfold execOp;simp only [Act.eval,Option.map]
  first
   |exact (by simpa using WS (fun r=>r.andThen fun v w=>Result.ok (Next.value v) w) this)
   |(unfold lF;go_simp)) ?_
 simp only [Act.put,sTA,List.set];have j:H+1<=G.heap.size:=(by have:=J.size;have e:w1.drew.heap.size=w1.heap.size:=rfl;omega);have t:((eY g).map bv).drop 4=((eY g).drop 4).map bv:=List.map_drop.symm;have N:Mid G (H+1) 5 (lF I c2 4) 4 (c2-4) (((eY g).drop 4).map bv):=by
  rw [<-t];simpa using s
 have A4:=ze I c2 4;have V:∀r,bI (lF I c2 4) (c2-4)=some r->H+1<=r:=fun r d=>(N.lt d).1;clear s T t A3;refine ix rfl rfl rfA (fun K A=> ?_);go_wp2_with fail;refine (ly (H+1) 4 n ((eY g).drop 4) _ _ _ hn N j oA).mono ?_;rintro e w3 ⟨a3,c3,rfl,y,O,-⟩;go_wp2_with fail;have X:oX H G w3:=(VW H G).grown O oA (fun r d=>by have:=V r d;omega);refine A _ _ X ?_;clear A K;have Y:=q.grown O (fun e=>by have:=V H e;omega);have A0:Below H w w3:=(M.drew.trans U).trans X;have A5:((eY g).drop 4++eY n).length=12:=jh g n;have Z:aj w3 a3 (vO g n):=y.read;obtain ⟨r3,o3,rfl,_⟩:=Z.at (by rw [jh];omega);have A1:cU (vA 12 fun _=>Value.int .u8 0) 0 ((vO g n).map bv).toArray=vA 12 fun i=>bv ((vO g n).getD i 0):=by
  rw [xR,jh];exact kU _ _ (by rw [ay,ay])
 have A2:=Hd A1;clear y O N A4 V U X q J A6 A1 A5 j C D;refine ix rfl rfl rfA (fun K A=> ?_);refine gY _ _ 22 22 rfl underlying22 jI rfl rfl Y (cs:=(vO g n).map bv) (by rw [lmA,jh];rfl) (av.all Z) (by rw [lmA,jh,ay];omega) (cV _) ?_;rw [A2.out];refine A _ _ (ak (VW _ _) (VU _) _) ?_;clear A K;refine zF ?_;have b:=Y.setRow (vA 12 fun i=>bv ((vO g n).getD i 0));have c:=ak A0 (VU H) (vA 12 fun i=>bv ((vO g n).getD i 0));rw [nonA] at b c⊢;refine kr (fun E=>Blk E H (fA 12 (oS g n)) 175/\Below H w E) ⟨b,c⟩ ?_;clear Y A0 b c Z A2 M;rintro w5 ⟨C,M⟩;go_wp2_with (first|refine ap rfl 175 Bv _ rfl rfl C (aH _ _) ?_|refine ae rfl 175 Bv (.tmp 4) _ (cells:=fA 12 (oS g n)) rfl rfl rfl C (aH _ _) (aH _ _) (fK _ _) ?_);exact cT rfl Bv rfl (C.setRow _) (aH _ _) rfl ⟨rfl,HH.out▸ak M (VU _) _⟩
theorem Ns (b o:Nat) (W:As):(Instr.sliceAt 170 (.pointer (some ⟨b,o,none⟩)) none none none).run prog W= .ok (.slice (some ⟨b,o,none⟩) 32 32) W:=by
 rw [WD W _ _ Ip,yh,eI jI,Dq];simp [slicedAt];rfl
def QF (w:As) (m:Le) (g n:Nat) (c:Le) (e:Ending) (w':As):Prop:=e= .returned (.agg (dgA (kp m g n c)))/\Below w.heap.size w w'
theorem zC (B:Nat) (m:Le) (g n:Nat) (ca:Lt) (F cc:Nat) (c:Le) (w:As) (E:fZ w B m g) (hc:aj w ca c) (A4:c.length=F) (B7:F<=100000) (hg:g<18446744073709551616) (hn:n<18446744073709551616):
  Calls prog 114 #[.pointer (some ⟨B,0,none⟩),.int .u64 (n:Int),.slice ca F cc] w (QF w m g n c):=by
 have HC:=Hd A4;obtain ⟨H,M⟩:=At w.heap.size;have t:=Hd M;have X:=E.lt;rw [<-M] at X;have C:=(VW w.heap.size w).alloc (VU _) (.cells (vA 32 fun _=> .int .u8 0) 170);have Y:=Blk.new w (vA 32 fun _=> .int .u8 0) 170;have A5:=E.old C;have Z:=C;rw [<-M] at Y Z;have B1:=Hd hc;clear A4 M E hc C;go_enter func114,ntmps114;go_upto_region 1 with fail;rw [<-t.out];refine ag (fun y=>Blk y H (vA 32 fun _=> .int .u8 0) 170/\fZ y B m g/\Below H w y) ⟨Y,A5,Z⟩ ?_;clear Y A5 Z;rintro w1 ⟨hR,E,hw⟩;have q1:=Ns B 16;have C0:Hid (∀W,oX H w1.drew W->W.cell? ⟨B,48,none⟩=some (.int .u64 (g:Int))):=Hd fun W G=>(fZ.keep (w:=w1.drew) E X G).game;have A0:=hR.lt;refine lN H (0::1::2::3::4::5::6::7::8::10::12::9::11::13::14::15::[]) krA krA cdA ?_
 repeat (first|(refine ij (v:= ?_) rfl rfl rfA ?_ ?_;rotate_left;(intro W G;go_simp);(try with_reducible rfl);simp only [Act.put,sTA,List.set])|(refine mX rfl rfA ?_;simp only [Act.put,sTA,List.set]))
 refine ij (v:= .int .u64 (g:Int)) rfl rfl rfA (fun W G=>by have:=C0.out W G;go_simp) ?_;simp only [Act.put,sTA,List.set]
 repeat (first|(refine ij (v:= ?_) rfl rfl rfA ?_ ?_;rotate_left;(intro W G;go_simp);(try with_reducible rfl);simp only [Act.put,sTA,List.set])|(refine mX rfl rfA ?_;simp only [Act.put,sTA,List.set]))
 refine ix rfl rfl rfA (fun K A=> ?_);go_wp2_with fail;refine (ly (H+1) 0 g [] none 0 _ hg (Mid.nil' _ _ _) (by exact A0) oA).mono ?_;rintro e N ⟨a2,c2,rfl,b,I,-⟩;go_wp2_with fail;have d:oX H w1.drew N:=(VW H w1.drew).grown I (XH A0) (by simp [bI]);refine A _ _ d ?_;clear A K;have A6:=hR.drew.grown I (by simp [bI]);have A1:H+1<=N.heap.size:=(by have:=I.size;have e:w1.drew.heap.size=w1.heap.size:=rfl;omega);have f:∀r,bI a2 c2=some r->H+1<=r:=fun r D=>(b.lt D).1;clear I;refine ix rfl rfl rfA (fun K A=> ?_);go_wp2_with fail;refine (ly (H+1) 8 n (eY g) _ _ _ hn (by simpa using b) A1 oA).mono ?_;rintro e w3 ⟨a3,c3,rfl,j,J,-⟩;go_wp2_with fail;have o:oX H N w3:=(VW H N).grown J oA (fun r D=>by have:=f r D;omega);refine A _ _ o ?_;clear A K;have A7:=A6.grown J (fun e=>by have:=f H e;omega);have P:oX H w1.drew w3:=ZH d o;have A2:H+1<=w3.heap.size:=(by have:=J.size;omega);have R:∀r,bI a3 c3=some r->H+1<=r:=fun r D=>(j.lt D).1;clear J f b A6 d o A1 hR;have A3:=B1.out.below (t.out▸hw.drew.trans P);refine ix rfl rfl rfA (fun K A=> ?_);refine ke _ _ 22 rfl dS rfl j rfl A3 (by rw [lmA,HC.out]) (cV _) mxA oA A2 ?_;intro a4 c4 w4 A8 S _;have p:oX H w3 w4:=(VW H w3).grown S oA (fun r D=>by have:=R r D;omega);refine A _ _ p ?_;clear A K;have q:=A7.grown S (fun e=>by have:=R H e;omega);have T:oX H w1.drew w4:=ZH P p;have A9:=fZ.keep (w:=w1.drew) E X T;have s:aj w4 a4 (eY g++eY n++c):=by
  have:=A8.read;unfold aj;rw [VF];exact this
 have U:(eY g++eY n++c).length=8+8+F:=(by rw [laA,laA,aM,aM,HC.out]);obtain ⟨O,C⟩:=At (eY g++eY n++c);rw [<-C] at U s;have BY:dgA (kp m g n c)=mcA (tkL m g) O:=(by rw [C];rfl);have B2:=Hd BY;have B3:=Hd U;clear C BY S R j A8 A7 P p A2 A3 U;simp only [Act.put,sTA,List.set];refine ix rfl rfl rfA (fun K A=> ?_);go_wp2_with fail;refine (JM (tkL m g) O _ 32 32 _ (8+8+F) _ _ A9.tag (nA _ _) oA s B3.out oA).mono ?_;rintro e w5 ⟨rfl,L⟩;go_wp2_with fail;have V:=q.lt;refine A _ _ (L.mono (XH V)) ?_;clear A K;have B0:=q.old L;have B4:Below H w w5:=(hw.drew.trans T).trans (L.mono (XH V));clear q T A9 s L V;refine ix rfl rfl rfA (fun K A=> ?_);refine bq 170 fX (.tmp 6) (.tmp 21) rfl rfl rfl B0 (ay _ _) (by rw [ay];omega) (dF fun _ _=>rfl) ?_;rw [kU _ _ (by rw [ay];exact (ay _ _).symm)];refine A _ _ (ak (VW _ _) (VU _) _) ?_;clear A K;refine zF ?_;have B5:=B0.setRow (mcA (tkL m g) O);have B6:=ak B4 (VU H) (mcA (tkL m g) O);go_wp2_with fail;exact cT rfl fX rfl B5 (ay _ _) rfl ⟨by rw [B2.out],t.out▸B6⟩
theorem qR {P:Program} {w:As} {o:Oper} {f:Operand->Value} (t:TypeId) (x y:Operand) (A:o.op= .build t #[(0,x),(1,y)]) {u v:Value} (C:f x=u) (D:f y=v) {cells:AS} (h:P.built t [(0,u),(1,v)]=some cells):
  (execOp f o).run P w= .ok (.value (.agg cells)) w:=by
 subst C D;unfold execOp;simp only [A,Wp,run_build w t #[(0,f x),(1,f y)] cells h,WE,Xk,List.map_toArray,WG,XP]
theorem Bl (c:Nat->BitVec 8) (f:Nat->Value):Tryz.prog.built 172 [(0,.agg (fA 16 c)),(1,.agg (vA 32 f))]=some (vA 48 fun i=>if i<16 then fv (c i) else f (i-16)):=by kernel_rfl
theorem Es (h:Nat->Value) (g:Int):Tryz.prog.built 174 [(0,.agg (vA 48 h)),(1,.int .u64 g)]=some (vA 49 fun i=>if i<48 then h i else .int .u64 g):=by kernel_rfl
def SnP (w:As) (m:Le) (g:Nat) (e:Ending) (w':As):Prop:=∃B,e= .returned (.pointer (some ⟨B,0,none⟩))/\w.heap.size<=B/\fZ w' B m g/\Below w.heap.size w w'
theorem Fj (A:Lt) (D I:Nat) (m:Le) (g:Nat) (w:As) (E:aj w A m) (A0:m.length=D) (BY:D<140737488352000) (hg:g<18446744073709551616):
  Calls prog 110 #[.slice A D I,.int .u64 (g:Int)] w (SnP w m g):=by
 have HL:=Hd A0;obtain ⟨H,q⟩:=At w.heap.size;have r:=Hd q;have f:=(Blk.new w #[.slice A D I] 22).alloc (.cells #[.int .u64 (g:Int)] 105);have U:=Blk.new (w.alloc (.cells #[.slice A D I] 22)) #[.int .u64 (g:Int)] 105;have n:=((VW w.heap.size w).alloc (VU _) (.cells #[.slice A D I] 22)).alloc skA (.cells #[.int .u64 (g:Int)] 105);have A1:=(E.alloc (.cells #[.slice A D I] 22)).alloc (.cells #[.int .u64 (g:Int)] 105);simp only [Wm] at U;rw [<-q] at f U n;have A2:=fun (s:ByteArray) (W:As) hs J F E=>AM s H (H+1) A D I m g W hs J F E HL.out BY hg;have A3:=Hd A2;clear A0 q E A2;go_enter func110,ntmps110;go_upto_region 1 with fail;rw [<-r.out];refine ag (fun G=>Blk G H #[.slice A D I] 22/\Blk G (H+1) #[.int .u64 (g:Int)] 105/\aj G A m/\Below H w G) ⟨f,U,A1,n⟩ ?_;clear f U A1 n;rintro w1 ⟨J,F,E,V⟩;have A4:=F.lt;go_wp2_with fail;refine (A3.out (dK ko) _ dcA J F E).mono ?_;unfold wQ;rintro e Y ⟨rfl,M⟩;have A5:=J.old M;have A6:=F.old M;have A7:=E.below M;have A8:=V.trans (M.mono oA);have B0:=M.size;clear J F E V M;obtain ⟨X,P⟩:=At (mcA m (ry (kL (dK ko)) (dK ko).size g));have B1:X.size=32:=(by rw [P];exact ay _ _);have B2:X.toList.all (·.oneCell')=true:=(by rw [P];exact dF fun _ _=>rfl);have B3:∀j (b:j<(fL 16 (ckB m g)).length),X[j]? =some (fL 16 (ckB m g))[j]:=by
  intro j b;have B6:j<16:=(by simpa [fL] using b);rw [P];have:mcA m (ry (kL (dK ko)) (dK ko).size g)=vA 32 fun i=>bv (KD m g i):=rfl;rw [this,mJ _ oA];simp [fL,fv];rfl
 rw [<-P];clear P;go_upto_region 3 with (refine ae rfl 170 fX (.tmp 6) _ (cells:=X) rfl rfl rfl (Blk.new _ _ _) B1 rfl B2 ?_);obtain ⟨C,R⟩:=At Y.heap.size;have o:=Blk.new Y (vA 32 fun _=> .int .u8 0) 170;have O:=ak ((VW Y.heap.size Y).alloc (VU _) (.cells (vA 32 fun _=> .int .u8 0) 170)) (VM R.symm) X;rw [<-R] at o⊢;refine ag (fun G=>Blk G H #[.slice A D I] 22/\Blk G (H+1) #[.int .u64 (g:Int)] 105/\Blk G C X 170/\aj G A m/\Below H w G) ⟨A5.old O,A6.old O,o.setRow _,A7.below O,A8.trans (O.mono oA)⟩ ?_;clear A5 A6 A7 A8 B0 o O R A4;rintro w3 ⟨J,F,R,E,V⟩;have A4:=F.lt;have ar:∀p c W,(Instr.arrayAt 169 (.slice (some p) 16 c)).run prog W= .ok (.pointer (some p)) W:=fun p c W=>by
  simp [Instr.arrayAt,WV underlying169]
 have C1:Hid (∀W,Old w3.drew W->W.cell? ⟨H+1,0,none⟩=some (.int .u64 (g:Int))):=Hd fun W L=>(Blk.old (w:=w3.drew) F L).cell rfl;refine aB (0::1::2::3::6::4::5::7::8::9::[]) krA krA cdA ?_
 repeat refine lxA ?_
 refine cR (v:= .agg (fA 16 (ckB m g))) rfl rfl rfA (fun W L=>aI 169 ee _ rfl rfl rfl (fun j b=>by rw [VN,(Blk.old (w:=w3.drew) R L).rule];exact B3 j b) (dh _ _)) ?_;simp only [Act.put,sTA,List.set]
 repeat refine lxA ?_
 refine cR (v:= .int .u64 (g:Int)) rfl rfl rfA (fun W L=>by have:=C1.out W L;go_simp) ?_;simp only [Act.put,sTA,List.set];refine bh rfl rfl rfA (fun K S=> ?_);go_wp2_with fail;refine (A3.out (dK Hq) _ dcA J.drew F.drew E.drew).mono ?_;unfold wQ;rintro e d ⟨rfl,N⟩;go_wp2_with fail;refine S _ _ N ?_;clear S K;rw [show mcA m (ry (kL (dK Hq)) (dK Hq).size g)=vA 32 fun i=>bv (Hi m g i) from rfl];refine cR (v:= .agg (vA 48 fun i=>if i<16 then fv (ckB m g i) else bv (Hi m g (i-16)))) rfl rfl rfA (fun W L=>qR 172 (.tmp 12) (.tmp 14) rfl rfl rfl (Bl (ckB m g) (fun i=>bv (Hi m g i)))) ?_;simp only [Act.put,sTA,List.set];refine cR (v:= .agg (vA 49 fun i=>if i<48 then (if i<16 then fv (ckB m g i) else bv (Hi m g (i-16))) else .int .u64 (g:Int))) rfl rfl rfA (fun W L=>qR 174 (.tmp 15) (.tmp 16) rfl rfl rfl (Es (fun i=>if i<16 then fv (ckB m g i) else bv (Hi m g (i-16))) (g:Int))) ?_;simp only [Act.put,sTA,List.set];have A9:(vA 49 fun i=>if i<48 then (if i<16 then fv (ckB m g i) else bv (Hi m g (i-16))) else .int .u64 (g:Int))=vA 49 (KK m g):=by
  refine BU fun i hi=> ?_;unfold KK;by_cases T:i<16
  .rw [Vz oA,Vz T,Vz T];rfl
  .by_cases e2:i<48
   .rw [Vz e2,VV T,VV T,Vz e2]
   .rw [VV e2,VV T,VV e2]
 rw [A9];clear A9;obtain ⟨Z,t⟩:=At (vA 49 (KK m g));rw [<-t];have HZ:=Hd t;clear t;refine bh rfl rfl rfA (fun K S=> ?_);go_wp2_with fail;have y:Below w3.heap.size w3 d:=⟨N.os,N.tape,N.output,N.size,N.block⟩;refine S _ _ ((VW _ _).alloc (VU _) _) ?_;clear S K
 repeat refine lxA ?_
 refine bJ ?_;have B4:=V.trans (y.mono oA);have B7:=y.size;have hN:=Blk.new d Z 174;have B5:=B4.alloc (show H<=d.heap.size by omega) (.cells Z 174);go_wp2_with fail;go_ret;refine ⟨d.heap.size,rfl,by rw [<-r.out];omega,?_,r.out▸B5⟩;unfold fZ;rw [<-HZ.out];exact hN
theorem dX (m:Le) (g n:Nat) (b:Le):(fM m g n b).length=b.length+32:=by rw [fM,laA,eM,dj]
def SlP (w:As) (m:Le) (g n:Nat) (b:Le) (e:Ending) (w':As):Prop:=
 ∃(a:Lt) (c:Nat),e= .returned (.tuple #[.slice a (b.length+32) c,.int .i64 0])/\Own w' w.heap.size 5 1 a (b.length+32) c ((fM m g n b).map bv)/\Below w.heap.size w w'
theorem Cu (B:Nat) (n:Nat) (D:Lt) (bn E:Nat) (w:As) (G:65504<bn) (C:bn<=maxLen):
  Calls prog 54 #[.pointer (some ⟨B,0,none⟩),.int .u64 (n:Int),.slice D bn E] w fun e w'=>e= .returned (.tuple #[.slice none 0 0,.int .i64 3])/\w=w':=by
 unfold maxLen at C;have A:=fun W=>tA (bn:Int) oA oA W;rw [show nH (bn:Int)=0 by rw [nH,Vz (.inr oA)]] at A;have F:=Hd A;clear A;go_enter func54,ntmps54;go_wp2_with fail;refine (F.out _).mono ?_;rintro e w' ⟨rfl,rfl⟩;go_wp2_with fail;go_ret2;exact ⟨rfl,rfl⟩
theorem Fo (B:Nat) (m:Le) (g n:Nat) (V:Lt) (bn t:Nat) (b:Le) (w:As) (y:fZ w B m g) (hb:aj w V b) (d:b.length=bn) (A4:bn<=65504) (hg:g<18446744073709551616) (hn:n<18446744073709551616):
  Calls prog 54 #[.pointer (some ⟨B,0,none⟩),.int .u64 (n:Int),.slice V bn t] w (SlP w m g n b):=by
 have L:=Hd d;obtain ⟨H,hH⟩:=At w.heap.size;have HH:=Hd hH;have X:=fun W=>tA (bn:Int) oA oA W;rw [show nH (bn:Int)=(bn:Int)+32 by rw [nH,VV oA]] at X;have HZ:=Hd X;have z1:((bn:Int)+32==0)=false:=soA;clear d hH X;go_enter func54,ntmps54;go_wp2_with fail;refine (HZ.out _).mono ?_;rintro e w' ⟨rfl,rfl⟩;go_upto_region 5 with fail;have f:fZ w.drew B m g:=y;refine aB (0::1::2::3::4::5::6::8::7::9::10::11::12::13::14::[]) krA krA cdA ?_
 repeat refine lxA ?_
 refine cR (v:= .agg (fA 16 (ckB m g))) rfl rfl rfA (fun W hW=>aI 169 ee _ rfl rfl rfl (fZ.old f hW).cipher (dh _ _)) ?_;simp only [Act.put,sTA,List.set]
 repeat refine lxA ?_
 refine bh rfl rfl rfA (fun K E=> ?_);go_wp2_with fail;refine (vM B m g n _ f hg hn).mono ?_;unfold Ls;rintro e w2 ⟨rfl,C⟩;go_wp2_with fail;refine E _ _ C ?_;clear E K;have I:Below w.heap.size w w2:=⟨C.os,C.tape,C.output,C.size,C.block⟩;refine bh rfl rfl rfA (fun K E=> ?_);go_wp2_with fail;refine (rU (ckB m g) (oS g n) V bn t b _ (hb.below I) L.out oA).mono ?_;rintro e w3 ⟨a3,c3,rfl,j,N⟩;go_wp2_with fail;refine E _ _ N ?_;clear E K;have O:=aa I N;have F:=j.lower I.size;clear C I N j
 repeat refine lxA ?_
 refine bJ ?_;obtain ⟨A,J⟩:=At (stm (ckB m g) (oS g n) b);rw [<-J] at F;have o:A.length=bn:=(by rw [J,eM,L.out]);have A0:=Hd o;have A1:=Hd J;clear o J;have p:=y.old O;go_wp2_with fail;refine (zC B m g n a3 bn c3 A _ p F.row A0.out oA hg hn).mono ?_;unfold QF;rintro e M ⟨rfl,P⟩;have q:=F.old P;have R:=aa O P;have r:=R.size;clear F O p P;go_upto_region 9 with (refine ae rfl 170 fX (.tmp 10) _ (cells:=dgA (kp m g n A)) rfl rfl rfl (Blk.new _ _ _) (ay _ _) rfl (dF fun _ _=>rfl) ?_);obtain ⟨G,D⟩:=At M.heap.size;have S:=Blk.new M (vA 32 fun _=> .int .u8 0) 170;have T:=ak ((VW M.heap.size M).alloc (VU _) (.cells (vA 32 fun _=> .int .u8 0) 170)) (VM D.symm) (dgA (kp m g n A));rw [<-D] at S⊢;refine ag (fun Y=>Own Y w.heap.size 5 1 a3 bn c3 (A.map bv)/\Blk Y G (dgA (kp m g n A)) 170/\Below w.heap.size w Y) ⟨q.old T,S.setRow _,R.trans (T.mono r)⟩ ?_;clear q R r S T D;rintro w5 ⟨Z,D,c⟩;have q2:=sU G;have U:=c.size;go_wp2_with (at_builtin;refine al rfl (.tmp 39) (.tmp 40) 22 rfl dS rfl Z rfl (sF D) (by rw [lmA,dj]) (cV _) mxA oA U ?_);intro a6 c6 w6 A2 s;have A3:=Z.grown c (VU _) s U;clear s Z D c q2 U;go_wp2_with fail;go_ret2;refine ⟨a6,c6,by rw [L.out];rfl,?_,A3⟩;have e:(fM m g n b).map bv=A.map bv++(dgl (kp m g n A)).map bv:=(by rw [fM,<-A1.out,VF]);rw [e,L.out];simpa using A2
def fO (m:Le) (g n:Nat) (b:Le):Le×Int:=
 if 32<=b.length/\b.length<=65536/\b.drop (b.length-32)=dgl (kp m g n (b.take (b.length-32))) then (stm (ckB m g) (oS g n) (b.take (b.length-32)),0) else ([],60)
def OpQ (w:As) (m:Le) (g n:Nat) (b:Le) (e:Ending) (w':As):Prop:=
 ∃(a:Lt) (k c:Nat) (l:Le) (er:Int),e= .returned (.tuple #[.slice a k c,.int .i64 er])/\fO m g n b=(l,er)/\l.length=k/\aj w' a l/\Below w.heap.size w w'/\k<=c
theorem Ap (A:Addr) (n c:Nat) (l:Le) (w:As) (J:aj w (some A) l) (F:l.length=n) (R:n<=140737488351232):
  Calls prog 48 #[.slice (some A) n c] w fun e w'=>∃a' c',e= .returned (.slice a' n c')/\Own w' w.heap.size 5 1 a' n c' (l.map bv)/\Below w.heap.size w w':=by
 have L:=Hd F;clear F;have O:=fun W=>Go.Lib.run_eql_slice_some_nil (P:=prog) W A n c underlying22;go_enter func48,ntmps48;have C:=Own.lit (w:=w) (B:=w.heap.size) (e:=5) #[] [] 0 rfl rfl (VU _) mxA;have D:=(VW w.heap.size w).alloc (VU _) (.cells #[] 5);go_wp2_with (at_builtin;refine al rfl (.tmp 5) (.tmp 6) 22 rfl dS rfl C rfl (J.alloc _) (by rw [lmA,L.out];omega) (cV _) mxA oA skA ?_);intro M N S G E;have I:=C.grown D (VU _) E skA;clear E C D;go_wp2_with fail;go_ret;exact ⟨M,N,rfl,by simpa using G,I⟩
def AJ (m:Le) (g n:Nat) (b:Le) (k:Nat):Bool:=(List.range 32).all fun i=>dgb (kp m g n (b.take k)) i==b.getD (k+i) 0
theorem vG (m:Le) (g n:Nat) (b:Le) (k:Nat) (C:b.length=k+32):AJ m g n b k=true↔b.drop k=dgl (kp m g n (b.take k)):=by
 unfold AJ;rw [Xx];constructor
 .intro h;apply ZC
  .rw [ldA,dj];omega
  .intro i h1 h2;rw [dj] at h2;have:=h i (Wk.2 h2);rw [XY] at this;simp only [Yz,dgl,WL,XL];rw [this,VG,VJ oA];rfl
 .intro h i hi;have A:=Wk.1 hi;rw [XY];have e:(b.drop k)[i]? =some (dgb (kp m g n (b.take k)) i):=(by rw [h];simp [dgl,A]);rw [Wh] at e;rw [VG,e];rfl
theorem Cq (B:Nat) (m:Le) (g n:Nat) (ba:Lt) (bn M:Nat) (b:Le) (w:As) (hB:fZ w B m g) (U:aj w ba b) (A3:b.length=bn) (B5:bn<=M) (hg:g<18446744073709551616) (hn:n<18446744073709551616) (B6:bn<=140737488355328):
  Calls prog 109 #[.pointer (some ⟨B,0,none⟩),.int .u64 (n:Int),.slice ba bn M] w (OpQ w m g n b):=by
 have G:=Hd A3;have hz:=fun x h1 o W=>tA x h1 o W;have HZ:=Hd hz;have B7:=Hd U;clear A3 hz;by_cases hr:32<=bn/\bn<=65536
 .obtain ⟨BY,B0⟩:=hr;obtain ⟨k,V⟩:∃k,bn=k+32:=⟨bn-32,oA⟩;have X:=Hd V;have e1:(bn:Int)-32=(k:Int):=oA;have D:=HZ.out (k:Int) oA oA;rw [show nH (k:Int)=(k:Int)+32 by rw [nH,VV oA]] at D;have Z:=Hd D;have z1:((k:Int)+32==0)=false:=soA;have B9:k<=65504:=oA;have CK:k<=M:=oA;obtain ⟨q,r,rfl,_⟩:=U.at (by rw [G.out];omega);have A:fO m g n b=if AJ m g n b k=true then (stm (ckB m g) (oS g n) (b.take k),0) else ([],60):=by
   unfold fO;rw [G.out,show bn-32=k by omega];by_cases h:AJ m g n b k=true
   .rw [Vz ⟨BY,B0,(vG m g n b k (by rw [G.out];exact V)).1 h⟩,Vz h]
   .rw [VV (fun o=>h ((vG m g n b k (by rw [G.out];exact V)).2 o.2.2)),VV h]
  have O:=Hd A;clear A V D;go_enter func109,ntmps109;go_wp2_with fail;refine (Z.out _).mono ?_;rintro e w' ⟨rfl,rfl⟩;have A4:aj w (some ⟨q,r,none⟩) (b.take k):=by
   have:=av.take k U;unfold aj;rw [WB];exact this
  have N:(b.take k).length=k:=(by rw [ltA,G.out];have:=X.out;omega);go_wp2_with fail;refine (Ap ⟨q,r,none⟩ k M (b.take k) _ A4 N oA).mono ?_;rintro e Y ⟨a2,c2,rfl,P,R⟩;obtain ⟨s,d⟩:=At (b.take k);rw [<-d] at P N;have f:=Hd d;have j:=Hd N;have S:=hB.old R;have A1:=U.below R;clear d A4 N hB;go_upto_region 7 with fail;have CW:=S.lt;have L:fZ Y.drew B m g:=S;have e3:IntKind.i64.wrap (k:Int)=(k:Int):=VD _ oA;have e4:(0:Int)<=(k:Int):=oA;have e5:(k:Int)<=(bn:Int):=oA;have e6:bn-k=32:=(by have:=X.out;omega);have e7:¬M=k:=(by have:=X.out;omega);have ar:∀p c W,(Instr.arrayAt 170 (.slice (some p) 32 c)).run prog W= .ok (.pointer (some p)) W:=fun p c W=>by
   simp [Instr.arrayAt,WV underlying170]
  have A0:∀W,Old Y.drew W->∀i (hi:i<(vL 32 fun i=>bv (b.getD (k+i) 0)).length),W.cell? ⟨q,r+k+i,none⟩=some (vL 32 fun i=>bv (b.getD (k+i) 0))[i]:=fun W J i hi=>by
   rw [df] at hi;obtain ⟨b',o',e,hc⟩:=aj.cellAt (A1.drew.below J) (k+i) (by rw [G.out];have:=X.out;omega);cases e;rw [WM,hc];simp [vL,bv]
  have B1:=Hd A0;clear A0 e1;refine aB (0::1::2::4::5::6::7::8::3::9::[]) krA krA cdA ?_
  repeat refine lxA ?_
  refine cR (v:= .agg (vA 32 fun i=>bv (b.getD (k+i) 0))) rfl rfl rfA (fun W J=>aI 170 fX _ rfl rfl rfl (B1.out W J) (df _ _)) ?_;simp only [Act.put,sTA,List.set];refine bh rfl rfl rfA (fun K C=> ?_);go_wp2_with fail;refine (zC B m g n a2 k c2 s _ L (P.drew.row) j.out oA hg hn).mono ?_;unfold QF;rintro e w3 ⟨rfl,F⟩;go_wp2_with fail;refine C _ _ F ?_;clear C K;have T:Below Y.heap.size Y w3:=⟨F.os,F.tape,F.output,F.size,F.block⟩;obtain ⟨E,t⟩:=At (AJ m g n b k);have A5:((List.range 32).all fun i=>dgb (kp m g n s) i==b[k+i]?.getD 0)=E:=(by rw [t,f.out];unfold AJ;simp only [VG]);have HE:=Hd t;have B2:=Hd A5;clear t A5;refine cR (v:= .bool (!E)) rfl rfl rfA (fun W J=>uA .neq 170 _ _ rfl rfl rfl krA (by rw [run_neq_struct,dgA,rH 9998 170 5 32 underlying170 underlying5 (eI jI),B2.out];rfl)) ?_;simp only [Act.put,sTA,List.set];refine bJ ?_;have B3:=S.old T;have B4:=P.old T;have A2:=aa R T;clear F T L S P A1 R e3 e4 e5 e6 e7 ar;cases E with
  |false=>
   have A:=O.out;rw [<-HE.out,VV skA] at A;have y:=Hd A;clear A;go_wp2_with fail;go_ret2;exact ⟨none,0,0,[],60,rfl,y.out,rfl,av.nil _ _,A2,VU _⟩
  |true=>
   have A:=O.out;rw [<-HE.out,Vz rfl] at A;have y:=Hd A;clear A;go_upto_region 9 with fail;have L:fZ w3.drew B m g:=B3;refine aB (0::1::2::3::4::5::6::8::7::9::10::11::12::13::[]) krA krA cdA ?_
   repeat refine lxA ?_
   refine cR (v:= .agg (fA 16 (ckB m g))) rfl rfl rfA (fun W J=>aI 169 ee _ rfl rfl rfl (fZ.old L J).cipher (dh _ _)) ?_;simp only [Act.put,sTA,List.set]
   repeat refine lxA ?_
   refine bh rfl rfl rfA (fun K C=> ?_);go_wp2_with fail;refine (vM B m g n _ L hg hn).mono ?_;unfold Ls;rintro e w4 ⟨rfl,I⟩;go_wp2_with fail;refine C _ _ I ?_;clear C K;have A6:Below w3.heap.size w3 w4:=⟨I.os,I.tape,I.output,I.size,I.block⟩;refine bh rfl rfl rfA (fun K C=> ?_);go_wp2_with fail;refine (rU (ckB m g) (oS g n) a2 k c2 s _ (B4.old A6).row j.out oA).mono ?_;rintro e w5 ⟨a5,c5,rfl,A7,A8⟩;go_wp2_with fail;refine C _ _ A8 ?_;clear C K
   repeat refine lxA ?_
   refine bJ ?_;have A9:=aa A2 (aa A6 A8);go_wp2_with fail;go_ret2;exact ⟨a5,k,c5,_,0,rfl,y.out,by rw [eM,<-f.out,j.out],by rw [<-f.out];exact A7.row,A9,A7.le⟩
 .have A:fO m g n b=([],60):=by
   unfold fO;rw [G.out,VV (fun h=>hr ⟨h.1,h.2.1⟩)]
  have D:=HZ.out ((bn:Int)-32) oA oA;rw [show nH ((bn:Int)-32)=0 by rw [nH,Vz oA]] at D;have Z:=Hd D;have O:=Hd A;clear D A;go_enter func109,ntmps109;go_wp2_with fail;refine (Z.out _).mono ?_;rintro e w' ⟨rfl,rfl⟩;go_wp2_with fail;go_ret2;exact ⟨none,0,0,[],60,rfl,O.out,rfl,av.nil _ _,VW _ _,VU _⟩
end
end Go.Proofs.YtioigihakjlopaaGreat

import Derived.Test.YtioigihakjlopaaGreatVR16
namespace Go.Proofs.YtioigihakjlopaaGreat
open Go.Proofs.Tryz
set_option linter.unusedVariables false
set_option linter.unusedSimpArgs false
set_option maxHeartbeats 16000000
set_option maxRecDepth 100000
section
open Go.RowKit
def aF (ds:List (ao×aY)):List ao:=ds.map Prod.fst
def SmD (w:As) (n:Nat) (ds es:List (ao×aY)) (f:Nat) (i:Value) (wr:As):Prop:=
 ∃k:Nat,k+f=n/\i= .int .i64 (k:Int)/\(aF ds).take k=(aF es).take k/\Below w.heap.size w wr
theorem nM {ds:List (ao×aY)} {k:Nat} (h:k<ds.length):(aF ds).take (k+1)=(aF ds).take k++ [(ds[k]).1]:=by
 rw [Vj (by rw [aF,lmA];exact h)];simp [aF]
theorem Aq (w:As) (a b:Lt) (n m c c':Nat) (ds A:List (ao×aY)) (Z:iL w a ds) (f:iL w b A) (M:ds.length=n) (N:A.length=m) (hz:n<=1000000000) (A2:m<=1000000000):
  Calls prog 73 #[.slice a n c,.slice b m c'] w fun e w'=>e= .returned (.bool (decide (aF ds=aF A)))/\Below w.heap.size w w':=by
 have l:=Hd M;have o:=Hd N;by_cases S:n=m
 .subst S;clear M N A2;go_enter func73,ntmps73;go_wp2_with fail;go_loopg [5] n (SmD w n ds A)
  case atStart=>exact ⟨0,oA,rfl,rfl,VW _ _⟩
  case round=>
   obtain ⟨k,t,rfl,T,D⟩:=hrel;have HF:=Hd t;have HT:=Hd T;clear t T;by_cases U:k<n
   .have t0:decide ((k:Int)<(n:Int))=true:=soA;have H:k<ds.length:=(by rw [l.out];exact U);have I:k<A.length:=(by rw [o.out];exact U);obtain ⟨b1,o1,e1,A0,J⟩:=Z.elem k H;obtain ⟨b2,o2,e2,A1,L⟩:=f.elem k I;subst e1 e2;have V:=((Z.each _ (VQ H)).old D);have X:=((f.each _ (VQ I)).old D);have A3:=Hd (nM H);have A4:=Hd (nM I);generalize ds[k]=x at*;generalize A[k]=y at*;obtain ⟨p,h⟩:=x;obtain ⟨q,g⟩:=y;dsimp only at J L V X;have HX:=Hd (show (aF ds).take (k+1)=(aF A).take (k+1)↔p=q by
     rw [A3.out,A4.out,HT.out];exact ⟨fun h=>(List.cons.inj (List.append_cancel_left h)).1,fun h=>by rw [h]⟩)
    have HD:=Hd (show ¬p=q->aF ds≠aF A from fun E e=>E (HX.out.1 (by rw [e])));have L1:=Hd (show ∀W,Old wr.drew W->∀j (F:j<(af p h).length),W.cell? ⟨b1,o1+k*15+j,none⟩=some (af p h)[j] from fun W C j F=>by
     rw [(aa (aa D (VW _ _).drew) C).cell (show b1<w.heap.size from A0)];exact J j F)
    have L2:=Hd (show ∀W,Old wr.drew W->∀j (F:j<(af q g).length),W.cell? ⟨b2,o2+k*15+j,none⟩=some (af q g)[j] from fun W C j F=>by
     rw [(aa (aa D (VW _ _).drew) C).cell (show b2<w.heap.size from A1)];exact L j F)
    clear J L;have G:=Cy p q h g wr.drew (V.old (VW _ _).drew) (X.old (VW _ _).drew);rw [aD,aD,yY] at G;obtain ⟨s,O⟩:=At (decide (p=q));rw [<-O] at G;have HS:=Hd O;clear O;go_upto_region 6 with fail;refine aB (0::1::2::3::4::5::6::7::8::9::[]) krA krA cdA ?_
    repeat refine lxA ?_
    refine cR (v:= .agg (af p h).toArray) rfl rfl rfA (fun W C=>aI 40 aZ (.tmp 19) rfl rfl rfl (L1.out W C) rfl) ?_;simp only [Act.put,sTA,List.set]
    repeat refine lxA ?_
    refine cR (v:= .agg (af q g).toArray) rfl rfl rfA (fun W C=>aI 40 aZ (.tmp 23) rfl rfl rfl (L2.out W C) rfl) ?_;simp only [Act.put,sTA,List.set];refine bh rfl rfl rfA (fun K hK=> ?_);go_wp2_with fail;refine G.mono ?_;rintro e w2 ⟨rfl,Y⟩;go_wp2_with fail;refine hK _ _ Y ?_;clear hK K
    repeat refine lxA ?_
    refine bJ ?_;clear G;have P:Below w.heap.size w w2:=aa D.drew Y;cases s with
    |true=>
     have A5:=Hd (HX.out.2 (Wu HS.out.symm));go_wp2_with fail;go_roundg (gk-1)
     case measure=>have:=HF.out;omega
     case rel=>exact ⟨k+1,by have:=HF.out;omega,gnA,A5.out,P⟩
    |false=>
     have E:=Hd (HD.out (ZY HS.out.symm));go_wp2_with fail;go_ret;exact ⟨by rw [VO E.out];rfl,P⟩
   .have t0:decide ((k:Int)<(n:Int))=false:=soA;have he:=Hd (show aF ds=aF A by
     have:=HT.out;rwa [VZ (by rw [aF,lmA,l.out];omega),VZ (by rw [aF,lmA,o.out];omega)] at this)
    go_wp2_with fail;go_ret;exact ⟨by rw [VK he.out];rfl,D⟩
 .have E:aF ds≠aF A:=fun e=>S (by have:=WS List.length e;rw [aF,aF,lmA,lmA] at this;omega);rw [VO E];have tn:((n:Int) !=(m:Int))=true:=soA;clear M N;go_enter func73,ntmps73;go_wp2_with fail;go_ret;exact ⟨rfl,VW _ _⟩
theorem sA (w:As) (a b:Lt) (n m c c':Nat) (ds A:List (ao×aY)) (I:iL w a ds) (J:iL w b A) (D:ds.length=n) (E:A.length=m) (F:n<=1000000000) (C:m<=1000000000):
  Calls prog 23 #[.slice a n c,.slice b m c'] w fun e w'=>e= .returned (.bool (decide (aF ds=aF A)))/\Below w.heap.size w w':=by
 have G:=Aq w a b n m c c' ds A I J D E F C;clear D E F C;generalize decide (aF ds=aF A)=R at*;go_enter func23,ntmps23;go_wp2_with fail;refine G.mono ?_;rintro e w2 ⟨rfl,H⟩;clear G;go_wp2_with fail;go_ret;exact ⟨rfl,H⟩
theorem wy {w:As} {a:Lt} {ds:List (ao×aY)} (h:av w a (eC ds)) (k:Nat) (A:k<ds.length):∃b o,a=some ⟨b,o,none⟩/\b<w.heap.size/\∀j (C:j<(af ds[k].1 ds[k].2).length),w.cell? ⟨b,o+k*15+j,none⟩=some (af ds[k].1 ds[k].2)[j]:=
 av.elem (g:=fun x:ao×aY=>af x.1 x.2) (sz:=15) (fun _=>rfl) h oA k A
def Gm27 (w:As) (n:Nat) (l:List ao) (f:Nat) (v3 v4:Value) (wr:As):Prop:=
 ∃k:Nat,k+f=n/\v4= .int .i64 (k:Int)/\v3= .int .i64 (aO (l.take k):Int)/\wr=w
theorem nJ (w:As) (a:Lt) (n c:Nat) (ds:List (ao×aY)) (h:av w a (eC ds)) (H:ds.length=n) (U:n<=1000000):
  Calls prog 39 #[.slice a n c] w fun e w'=>e= .returned (.int .i64 (aO (aF ds):Int))/\w'=w:=by
 have I:=Hd H;clear H;go_enter func39,ntmps39;go_wp2_with fail;go_loopg [3,4] n (Gm27 w n (aF ds))
 case atStart=>exact ⟨0,oA,rfl,rfl,rfl⟩
 case round=>
  obtain ⟨k,J,rfl,rfl,rfl⟩:=hrel;have C:=Hd J;clear J;by_cases P:k<n
  .have t0:decide ((k:Int)<(n:Int))=true:=soA;have G:k<ds.length:=(by rw [I.out];exact P);obtain ⟨b,o,rfl,V,L⟩:=wy h k G;have O:wr.cell? ⟨b,o+k*15,none⟩=some (.int .i8 (ds[k]).1.kind):=L 0 (show 0<15 by omega);have M:=Hd (show (aF ds).take (k+1)=(aF ds).take k++ [(ds[k]).1] from nM G);obtain ⟨p,F⟩:=At ((ds[k]).1);rw [<-F] at M;rw [<-F] at O;have T:aO ((aF ds).take k)<=n:=Vd (mZ _) (by rw [ltA];omega);clear L F;have N:=Hd (show aO ((aF ds).take (k+1))=aO ((aF ds).take k)+(if p.kind=1 then 1 else 0) by rw [M.out,gj]);generalize aO ((aF ds).take k)=D at*;by_cases A:p.kind=1
   .have t1:(p.kind==1)=true:=(by simpa using A);have W:IntKind.i64.wrap ((D:Int)+1)=((D+1:Nat):Int):=(by rw [VR];omega);have E:=Hd (show aO ((aF ds).take (k+1))=D+1 by rw [N.out,Vz A]);clear A;go_wp2_with fail;go_roundg (gk-1)
    case rel=>exact ⟨k+1,by have:=C.out;omega,gnA,by rw [E.out];first|rfl|(congr 1;omega),rfl⟩
    case measure=>have:=C.out;omega
   .have t1:(p.kind==1)=false:=(by simpa using A);have E:=Hd (show aO ((aF ds).take (k+1))=D by rw [N.out,VV A];rfl);clear A;go_wp2_with fail;go_roundg (gk-1)
    case rel=>exact ⟨k+1,by have:=C.out;omega,gnA,by rw [E.out],rfl⟩
    case measure=>have:=C.out;omega
  .have t0:decide ((k:Int)<(n:Int))=false:=soA;have S:=Hd (show (aF ds).take k=aF ds from VZ (by rw [aF,lmA,I.out];omega));go_wp2_with fail;go_ret;exact ⟨by rw [S.out];rfl,rfl⟩
def sv (ds:List (ao×aY)) (g:Int):List (ao×aY):=ds.filter fun x=>decide (x.1.game=g)
theorem su (ds:List (ao×aY)) (g:Int):aF (sv ds g)=ofG (aF ds) g:=by
 unfold aF sv ofG;rw [List.filter_map];rfl
theorem ue (ds:List (ao×aY)) (g:Int):(sv ds g).length=(ofG (aF ds) g).length:=by
 rw [<-su,aF,lmA]
def OfR (w:As) (n:Nat) (ds:List (ao×aY)) (g:Int) (f:Nat) (v5 v6:Value) (wr:As):Prop:=
 ∃(k:Nat) (a:Lt) (c m:Nat),k+f=n/\v6= .int .i64 (k:Int)/\(sv (ds.take k) g).length=m/\v5= .slice a m c/\Own wr w.heap.size 40 15 a m c (eC (sv (ds.take k) g))/\Below w.heap.size w wr
theorem tM (w:As) (a:Lt) (n c:Nat) (ds:List (ao×aY)) (g:Int) (h:av w a (eC ds)) (U:ds.length=n) (y:n<=1000000):
  Calls prog 38 #[.slice a n c,.int .i64 g] w fun e w'=>∃a' c',e= .returned (.slice a' (sv ds g).length c')/\Own w' w.heap.size 40 15 a' (sv ds g).length c' (eC (sv ds g))/\Below w.heap.size w w':=by
 have V:=Hd U;clear U;go_enter func38,ntmps38;go_wp2_with fail;go_loopg [5,6] n (OfR w n ds g)
 case atStart=>exact ⟨0,none,0,0,oA,rfl,rfl,rfl,Own.nil _ _ _ _,VW _ _⟩
 case round=>
  obtain ⟨k,a',c',m,W,rfl,M,rfl,C,A⟩:=hrel;have G:=Hd W;have A1:m<=n:=by
   rw [<-M];exact Vd (YU _ _) (by rw [ltA];omega)
  have N:=Hd M;clear W M;by_cases hk:k<n
  .have t0:decide ((k:Int)<(n:Int))=true:=soA;have O:k<ds.length:=(by rw [V.out];exact hk);obtain ⟨b,o,rfl,P,H⟩:=wy h k O;have I:w.cell? ⟨b,o+k*15+1,none⟩=some (.int .i64 (ds[k]).1.game):=H 1 (show 1<15 by omega);have F:=Hd (show sv (ds.take (k+1)) g=sv (ds.take k) g++(if (ds[k]).1.game=g then [ds[k]] else []) by
    rw [Vj O];unfold sv;rw [ZJ];by_cases e:(ds[k]).1.game=g<;>simp [e])
   generalize ds[k]=x at*;obtain ⟨p,q⟩:=x;dsimp only at H I F;rw [<-A.cell (p:=⟨b,o+k*15+1,none⟩) P] at I;have J:∀j (X:j<(af p q).length),wr.cell? ⟨b,o+k*15+j,none⟩=some (af p q)[j]:=fun j X=>(by rw [A.cell (p:=⟨b,o+k*15+j,none⟩) P];exact H j X);clear H;by_cases D:p.game=g
   .have t1:(p.game==g)=true:=(by simpa using D);have E:=Hd (show sv (ds.take (k+1)) g=sv (ds.take k) g++ [(p,q)] by rw [F.out,Vz D]);have A0:(af p q).length=15:=rfl;have y:=A.size;clear D F;go_wp2_with (first|refine dZ rfl 40 aZ _ rfl rfl rfl J rfl ?_|(at_builtin;rw [jT];refine al rfl _ _ 23 rfl sG rfl (C.alloc _) rfl (av.new' wr (af p q).toArray 40 _ rfl) rfA (by exact de _ rfl) mxA oA soA ?_));intro Y Z f S T;have l:Below w.heap.size w f:=(C.alloc _).grown (A.alloc A.size _) (VU _) T soA;have HL:=Hd (show (sv (ds.take (k+1)) g).length=m+1 by rw [E.out,laA,N.out];rfl);have s:Own f w.heap.size 40 15 Y (m+1) Z (eC (sv (ds.take (k+1)) g)):=by
     rw [E.out,mw];exact S
    clear S T J I C;go_wp2_with fail;go_roundg (gk-1)
    case rel=>exact ⟨k+1,Y,Z,m+1,by have:=G.out;omega,gnA,HL.out,rfl,s,l⟩
    case measure=>have:=G.out;omega
   .have t1:(p.game==g)=false:=(by simpa using D);have E:=Hd (show sv (ds.take (k+1)) g=sv (ds.take k) g by rw [F.out,VV D,WO]);clear D F J;go_wp2_with fail;go_roundg (gk-1)
    case rel=>exact ⟨k+1,a',c',m,by have:=G.out;omega,gnA,by rw [E.out];exact N.out,rfl,by rw [E.out];exact C,A⟩
    case measure=>have:=G.out;omega
  .have t0:decide ((k:Int)<(n:Int))=false:=soA;have HA:=Hd (show ds.take k=ds from VZ (by rw [V.out];omega));have L:=N.out;rw [HA.out] at L C;have t:=Hd L;clear L;go_wp2_with fail;go_ret;rw [t.out];exact ⟨a',c',rfl,C,A⟩
theorem ot (w:As) (a:Lt) (n c:Nat) (ds:List (ao×aY)) (p:ao) (g:aY) (h:av w a (eC ds)) (S:ds.length=n) (T:n<=1000000):
  Calls prog 131 #[.slice a n c,dG p g] w fun e w'=>e= .returned (.bool (bz (aF ds) p))/\Below w.heap.size w w':=by
 rw [aD];obtain ⟨R,J⟩:=At (bz (aF ds) p);rw [<-J];have E:=Hd J;clear J;go_enter func131,ntmps131;go_upto_region 1 with fail;obtain ⟨X,H⟩:=At w.heap.size;rw [<-H];refine ag (fun W=>Blk W X (af p g).toArray 40/\Below w.heap.size w W) ⟨by subst H;exact Blk.new w _ _,by subst H;exact cL⟩ ?_;rintro M ⟨N,G⟩;clear H;have A:=N.rule;unfold af at A;have V:∀W,Old M.drew W->W.cell? ⟨X,1,none⟩=some (.int .i64 p.game):=fun W U=>(N.drew.old U).cell rfl;have O:=nJ M.drew a n c ds ((h.below G).below (VW _ _).drew) S T;generalize L:aO (aF ds)=P at*;by_cases C:p.kind=1
 .have hr:R=(p.game==(P:Int)):=by
   rw [E.out];unfold bz;rw [Vz C,L];rfl
  have D:=Hd hr;have t1:(p.kind==1)=true:=(by simpa using C);clear C hr E;go_upto_region 2 with fail;clear A;refine aB (0::1::2::3::4::5::[]) krA krA cdA ?_
  repeat refine lxA ?_
  refine bh rfl rfl rfA (fun K F=> ?_);go_wp2_with fail;refine O.mono ?_;rintro e w2 ⟨rfl,rfl⟩;go_wp2_with fail;refine F _ _ (VW _ _) ?_;clear F K
  repeat refine lxA ?_
  refine bJ ?_;go_wp2_with fail;go_ret;exact ⟨by rw [D.out];rfl,G.drew⟩
 .have hr:R=(decide (0<=p.game)&&decide (p.game<(P:Int))):=by
   rw [E.out];unfold bz;rw [VV C,L]
  have t1:(p.kind==1)=false:=(by simpa using C);clear C;by_cases I:0<=p.game
  .have t2:decide (0<=p.game)=true:=(by simpa using I);rw [t2,WU] at hr;have D:=Hd hr;clear hr I E;go_upto_region 3 with fail;clear A;refine aB (0::1::2::3::4::5::6::7::8::9::10::[]) krA krA cdA ?_
   repeat refine lxA ?_
   refine bh rfl rfl rfA (fun K F=> ?_);go_wp2_with fail;refine O.mono ?_;rintro e w2 ⟨rfl,rfl⟩;go_wp2_with fail;refine F _ _ (VW _ _) ?_;clear F K
   repeat refine lxA ?_
   refine bJ ?_;go_wp2_with fail;go_ret;exact ⟨by rw [D.out];rfl,G.drew⟩
  .have t2:decide (0<=p.game)=false:=(by simpa using I);rw [t2,Wj] at hr;have D:=Hd hr;clear hr I E;go_upto_region 3 with fail;clear A;refine aB (0::1::2::3::4::5::6::7::8::9::10::[]) krA krA cdA ?_
   repeat refine lxA ?_
   refine bJ ?_;go_wp2_with fail;go_ret;exact ⟨by rw [D.out];rfl,G.drew⟩
end
section
open Go.RowKit
theorem JB (g n j:Nat) (h:j<4):(vO g n).getD j 0=(eY g).getD (4+j) 0:=by
 rw [VG,VG,vO,Vo (by rw [ldA,aM];omega),Wh]
theorem JC (g n j:Nat):(vO g n).getD (4+j) 0=(eY n).getD j 0:=by
 rw [VG,VG,vO,Vw (by rw [ldA,aM];omega),ldA,aM];congr 2;omega
structure RnI (w:As) (H g n:Nat) (ga na:Lt) (gc nc t:Nat) (wr:As):Prop where
 res:Blk wr H (vA 12 fun _=> .int .u8 0) 175
 out:Blk wr (H+1) (vA 12 fun j=>if j<t then bv ((vO g n).getD j 0) else .int .u8 0) 175
 og:Own wr H 5 1 ga 8 gc ((eY g).map bv)
 on:Own wr H 5 1 na 8 nc ((eY n).map bv)
 below:Below H w wr
theorem RnI.step {w:As} {H g n:Nat} {A C:Lt} {D E t:Nat} {wr:As} (h:RnI w H g n A C D E t wr) (G:t<12) (x:UInt8) (hx:x=(vO g n).getD t 0):RnI w H g n A C D E (t+1) (wr.setCell ⟨H+1,t,none⟩ (.int .u8 (U8 x))):=
 ⟨h.res.other _ _ (by show H≠H+1;omega),(h.out.setV G _).ofV fun j _=>by
  by_cases e:j=t
  .subst e;rw [Vz rfl,Vz oA,hx];rfl
  .rw [VV e];by_cases F:j<t
   .rw [Vz F,Vz oA]
   .rw [VV F,VV oA],h.og.setCell_apart h.out dcA _ _,h.on.setCell_apart h.out dcA _ _,h.below.setCell (by show H<=H+1;omega) _⟩
def Rq1 (w:As) (H g n:Nat) (ga na:Lt) (gc nc:Nat) (f:Nat) (i:Value) (wr:As):Prop:=∃t:Nat,f+t=4/\i= .int .i64 (t:Int)/\RnI w H g n ga na gc nc t wr
def Rq2 (w:As) (H g n:Nat) (ga na:Lt) (gc nc:Nat) (f:Nat) (i:Value) (wr:As):Prop:=∃t:Nat,f+t=8/\i= .int .i64 (t:Int)/\RnI w H g n ga na gc nc (4+t) wr
theorem se (B g n:Nat) (w:As) (O:w.cell? ⟨B,0,none⟩=some (.int .u64 (g:Int))) (hg:g<18446744073709551616) (hn:n<18446744073709551616):
  Calls prog 157 #[.pointer (some ⟨B,0,none⟩),.int .u64 (n:Int)] w (Ls w g n):=by
 obtain ⟨H,P⟩:=At w.heap.size;have o:=Hd P;have Z:=Vx w _ O;have N:=(Blk.new w (vA 12 fun _=> .int .u8 0) 175).alloc (.cells (vA 12 fun _=> .int .u8 0) 175);have I:=Blk.new (w.alloc (.cells (vA 12 fun _=> .int .u8 0) 175)) (vA 12 fun _=> .int .u8 0) 175;have J:=((VW w.heap.size w).alloc (VU _) (.cells (vA 12 fun _=> .int .u8 0) 175)).alloc skA (.cells (vA 12 fun _=> .int .u8 0) 175);simp only [Wm] at I;have L:((w.alloc (.cells (vA 12 fun _=> .int .u8 0) 175)).alloc (.cells (vA 12 fun _=> .int .u8 0) 175)).cell? ⟨B,0,none⟩=some (.int .u64 (g:Int)):=(by rw [J.cell Z];exact O);rw [<-P] at N I J;have hz:=jq BK;clear P O Z;go_enter func157,ntmps157;go_upto_region 2 with fail;clear hz;rw [<-o.out];refine ag (fun M=>Blk M H (vA 12 fun _=> .int .u8 0) 175/\Blk M (H+1) (vA 12 fun _=> .int .u8 0) 175/\M.cell? ⟨B,0,none⟩=some (.int .u64 (g:Int))/\Below H w M) ⟨N,I,L,J⟩ ?_;clear N I L J;rintro w1 ⟨p,S,L,q⟩;have A2:H+1<w1.heap.size:=S.lt;go_wp2_with fail;refine (iX g hg _).mono ?_;rintro e w2 ⟨T,U,rfl,b,D⟩;have y:=D.size;go_wp2_with fail;refine (iX n hn _).mono ?_;rintro e w3 ⟨V,W,rfl,c,E⟩;have A:RnI w H g n T V U W 0 w3:=⟨(p.old D).old E,((S.old D).old E).ofV fun j _=>by rw [VV oA],(b.lower oA).old E,c.lower oA,(q.trans (D.mono oA)).trans (E.mono oA)⟩;clear p S L q D E b c y;go_wp2_with fail;go_loopg [8] 4 (Rq1 w H g n T V U W)
 case atStart=>exact ⟨0,oA,rfl,A⟩
 case round=>
  clear A;obtain ⟨t,F,rfl,A⟩:=hrel;have C:=Hd F;clear F;by_cases s:t<4
  .have X:decide ((t:Int)<4)=true:=VK oA;have A0:(t:Int)<4:=oA;obtain ⟨x,hx⟩:=At ((eY g).getD (4+t) 0);obtain ⟨b1,o1,rfl,G⟩:=aj.cellAt A.og.row (4+t) (by rw [aM];omega);rw [<-hx] at G;have c2:=A.out.atV (show t<12 by omega) rfl;have f2:=A.out.free;have Y:=Hd hx;clear hx;go_wp2_with fail;clear G c2 f2;go_roundg (gk-1)
   case rel=>exact ⟨t+1,by have:=C.out;omega,gnA,A.step oA x (by rw [Y.out,JB g n t s])⟩
   case measure=>have:=C.out;omega
  .obtain rfl:t=4:=(by have:=C.out;omega);have X:decide (((4:Nat):Int)<4)=false:=skA;go_wp2_with fail;go_loopg [9] 8 (Rq2 w H g n T V U W)
   case atStart=>exact ⟨0,oA,rfl,A⟩
   case round=>
    clear A;obtain ⟨t,F,rfl,A⟩:=hrel;have C:=Hd F;clear F;by_cases s:t<8
    .have X:decide ((t:Int)<8)=true:=VK oA;have A0:(t:Int)<8:=oA;obtain ⟨x,hx⟩:=At ((eY n).getD t 0);obtain ⟨b1,o1,rfl,G⟩:=aj.cellAt A.on.row t (by rw [aM];omega);rw [<-hx] at G;have c2:=A.out.atV (show 4+t<12 by omega) rfl;have f2:=A.out.free;have Y:=Hd hx;clear hx;go_wp2_with fail;clear G c2 f2;go_roundg (gk-1)
     case rel=>exact ⟨t+1,by have:=C.out;omega,gnA,A.step oA x (by rw [Y.out,JC g n t])⟩
     case measure=>have:=C.out;omega
    .obtain rfl:t=8:=(by have:=C.out;omega);have X:decide (((8:Nat):Int)<8)=false:=skA;have f:=A.out.ofV (g:=fun j=>bv ((vO g n).getD j 0)) fun j hj=>Vz hj;have l:=A.res;have A1:=A.below;rw [nonA] at f;clear A;go_wp2_with (first|refine ap rfl 175 Bv _ rfl rfl f (aH _ _) ?_|refine ae rfl 175 Bv (.tmp 4) _ (cells:=fA 12 (oS g n)) rfl rfl rfl l (aH _ _) (ay _ _) (fK _ _) ?_);exact cT rfl Bv rfl (l.setRow _) (aH _ _) rfl ⟨rfl,o.out▸ak A1 (VU _) _⟩
def mm (m:Le) (g k:Nat) (tv:Value) (i:Nat):Value:=if i=0 then .int .u64 (g:Int) else if i<17 then (if i-1<k then bv (KD m g (i-1)) else .int .u8 0) else tv
structure uO (w:As) (B:Nat) (m:Le) (g:Nat) (ta:Lt) (tc:Nat):Prop where
 blk:Blk w B (vA 18 (mm m g 16 (.slice ta 32 tc))) 222
 tag:aj w ta (tkL m g)
section
variable {w w':As} {B:Nat} {m:Le} {g:Nat} {ta:Lt} {tc:Nat}
theorem uO.old (h:uO w B m g ta tc) (A:Below w.heap.size w w'):uO w' B m g ta tc:=⟨h.blk.old A,h.tag.below A⟩
theorem uO.drew (h:uO w B m g ta tc):uO w.drew B m g ta tc:=⟨h.blk,h.tag⟩
theorem uO.game (h:uO w B m g ta tc):w.cell? ⟨B,0,none⟩=some (.int .u64 (g:Int)):=h.blk.atV oA (by simp [mm])
theorem uO.tagv (h:uO w B m g ta tc):w.cell? ⟨B,17,none⟩=some (.slice ta 32 tc):=h.blk.atV oA (by simp [mm])
theorem uO.key (h:uO w B m g ta tc):∀j (A:j<(fL 16 (ckB m g)).length),w.cell? ⟨B,1+j,none⟩=some (fL 16 (ckB m g))[j]:=by
 intro j A;have C:j<16:=(by simpa [fL] using A);rw [h.blk.atV (show 1+j<18 by omega) rfl,mm,VV oA,Vz oA,Vz oA];simp [fL,fv,bv,ckB];rfl
end
theorem Mg (m:Le) (g:Nat):(#[.int .u64 (g:Int),.int .u8 0,.int .u8 0,.int .u8 0,.int .u8 0,.int .u8 0,.int .u8 0,.int .u8 0,.int .u8 0,.int .u8 0,.int .u8 0,.int .u8 0,.int .u8 0,.int .u8 0,.int .u8 0,.int .u8 0,.int .u8 0,.slice none 0 0]:AS)=vA 18 (mm m g 0 (.slice none 0 0)):=rfl
structure RbI (w:As) (m:Le) (g C T X k:Nat) (wr:As):Prop where
 c:Blk wr C (vA 32 fun i=>bv (KD m g i)) 170
 t:Blk wr T (dgA (we m (ry Hq 3 g))) 170
 x:Blk wr X (vA 18 (mm m g k (.slice none 0 0))) 222
 xb:w.heap.size<=X
 below:Below w.heap.size w wr
theorem RbI.step {w:As} {m:Le} {g C T X k:Nat} {wr:As} (h:RbI w m g C T X k wr) (F:k<16):RbI w m g C T X (k+1) (wr.drew.setCell ⟨X,1+k,none⟩ (.int .u8 (U8 (KD m g k)))):=
 ⟨h.c.drew.other _ _ (Blk.ne h.c h.x dcA),h.t.drew.other _ _ (Blk.ne h.t h.x dcA),(h.x.drew.setV (show 1+k<18 by omega) _).ofV fun i G=>by
  by_cases e:i=1+k
  .subst e;rw [Vz rfl,mm,VV oA,Vz oA,Vz oA,show 1+k-1=k by omega];rfl
  .rw [VV e];unfold mm;by_cases A:i=0
   .rw [Vz A,Vz A]
   .rw [VV A,VV A];by_cases D:i<17
    .rw [Vz D,Vz D];by_cases E:i-1<k
     .rw [Vz E,Vz oA]
     .rw [VV E,VV oA]
    .rw [VV D,VV D],h.xb,h.below.drew.setCell h.xb _⟩
def Rb1 (w:As) (m:Le) (g C T X:Nat) (f:Nat) (i:Value) (wr:As):Prop:=∃k:Nat,f+k=16/\i= .int .i64 (k:Int)/\RbI w m g C T X k wr
def RnwP (w:As) (m:Le) (g:Nat) (e:Ending) (w':As):Prop:=∃(B:Nat) (ta:Lt) (tc:Nat),e= .returned (.pointer (some ⟨B,0,none⟩))/\w.heap.size<=B/\uO w' B m g ta tc/\Below w.heap.size w w'
theorem zf (O:Lt) (P p:Nat) (m:Le) (g:Nat) (w:As) (N:aj w O m) (y:m.length=P) (A0:P<140737488352000) (hg:g<18446744073709551616):
  Calls prog 132 #[.slice O P p,.int .u64 (g:Int)] w (RnwP w m g):=by
 have HL:=Hd y;clear y;go_enter func132,ntmps132;go_wp2_with fail;refine (zi m O P p (dK ko) g _ N HL.out A0 dcA hg).mono ?_;unfold wQ;rintro e w2 ⟨rfl,j⟩;have A1:=N.below j;obtain ⟨X,D⟩:=At (mcA m (ry (kL (dK ko)) (dK ko).size g));have A2:X.size=32:=(by rw [D];exact ay _ _);have A3:X.toList.all (·.oneCell')=true:=(by rw [D];exact dF fun _ _=>rfl);rw [<-D];have HX:=Hd D;clear D;go_upto_region 2 with (refine ae rfl 170 fX (.tmp 5) _ (cells:=X) rfl rfl rfl (Blk.new _ _ _) A2 rfl A3 ?_);obtain ⟨C,F⟩:=At w2.heap.size;have l:=Blk.new w2 (vA 32 fun _=> .int .u8 0) 170;have A:=ak ((VW w2.heap.size w2).alloc (VU _) (.cells (vA 32 fun _=> .int .u8 0) 170)) (VM F.symm) X;rw [<-F] at l⊢;refine ag (fun G=>Blk G C X 170/\aj G O m/\Below w.heap.size w G) ⟨l.setRow _,A1.below A,aa j A⟩ ?_;clear N A1 l A F j;rintro w3 ⟨F,N,H⟩;go_wp2_with fail;refine (zi m O P p (dK Hq) g _ N HL.out A0 dcA hg).mono ?_;unfold wQ;rintro e I ⟨rfl,L⟩;have A4:=F.old L;have U:=aa H L;obtain ⟨Y,S⟩:=At (mcA m (ry (kL (dK Hq)) (dK Hq).size g));have A5:Y.size=32:=(by rw [S];exact ay _ _);have A6:Y.toList.all (·.oneCell')=true:=(by rw [S];exact dF fun _ _=>rfl);rw [<-S];have HY:=Hd S;clear S F N H L;go_upto_region 3 with (refine ae rfl 170 fX (.tmp 6) _ (cells:=Y) rfl rfl rfl (Blk.new _ _ _) A5 rfl A6 ?_);obtain ⟨T,J⟩:=At I.heap.size;have n:=Blk.new I (vA 32 fun _=> .int .u8 0) 170;have A:=ak ((VW I.heap.size I).alloc (VU _) (.cells (vA 32 fun _=> .int .u8 0) 170)) (VM J.symm) Y;rw [<-J] at n⊢;refine ag (fun G=>Blk G C X 170/\Blk G T Y 170/\Below w.heap.size w G) ⟨A4.old A,n.setRow _,aa U A⟩ ?_;clear A4 n A J U;rintro Z ⟨F,J,H⟩;go_wp2_with fail;obtain ⟨B,q⟩:=At Z.heap.size;have o:=Blk.new Z (vA 18 (mm m g 0 (.slice none 0 0))) 222;have A:=(VW Z.heap.size Z).alloc (VU _) (.cells (vA 18 (mm m g 0 (.slice none 0 0))) 222);rw [<-q] at o⊢;refine ag (fun G=>RbI w m g C T B 0 G) ?_ ?_
 .rw [Mg m g];exact ⟨by
   have:=F.old A;rw [HX.out] at this;exact this,by
   have:=J.old A;rw [HY.out] at this;exact this,o,q▸H.size,aa H A⟩
 clear F J H q o A A3 A2 A6 A5;intro w6 A7;go_loopg [8] 16 (Rb1 w m g C T B)
 case atStart=>exact ⟨0,oA,rfl,A7⟩
 case round=>
  clear A7;obtain ⟨k,hf,rfl,E⟩:=hrel;have s:=Hd hf;clear hf;by_cases hk:k<16
  .have hkI:(k:Int)<16:=oA;have B3:(k:Int)<32:=oA;have tt:decide ((k:Int)<16)=true:=VK hkI;have c1:=E.c.drew.atV (show k<32 by omega) rfl;have f1:=E.x.drew.free;have C1:Hid (∀W,Old wr.drew W->W.cell? ⟨C,k,none⟩=some (.int .u8 (U8 (KD m g k)))):=Hd fun W M=>(Blk.old (w:=wr.drew) E.c M).atV (show k<32 by omega) rfl;have c2:=E.x.drew.atV (show 1+k<18 by omega) rfl;go_upto_region 7 with fail;refine ah true Old Old.refl Old.trans (.step 0 (.step 1 (.step 2 (.step 3 (.step 4 (.step 5 (.step 6 (.step 7 (.step 8 .done))))))))) krA krA cdA ?_
   repeat refine txA ?_
   refine bM (v:= .int .u8 (U8 (KD m g k))) rfl rfl rfA (fun W M=>by have:=C1.out W M;go_simp) ?_;simp only [Act.put,sTA,List.set]
   repeat refine txA ?_
   refine az rfl rfl rfA (fun K b=> ?_);go_wp2_with fail;refine aq ?_;clear c1 f1 C1 c2;go_wp2_with fail;go_roundg (gk-1)
   case rel=>exact ⟨k+1,by have:=s.out;omega,gnA,E.step hk⟩
   case measure=>have:=s.out;omega
  .obtain rfl:k=16:=(by have:=s.out;omega);have tt:decide (((16:Nat):Int)<16)=false:=skA;have J:=E.t;have D:=E.x;have H:=E.below;have A8:=E.xb;clear E;have q2:=sU T;have f1:=D.drew.free;have A9:wr.drew.cell? ⟨B,17,none⟩=some (.slice none 0 0):=D.drew.atV oA (by simp [mm]);have B0:Hid (∀W,Old wr.drew W->W.cell? ⟨B,17,none⟩=some (.slice none 0 0)):=Hd fun W M=>(Blk.old (w:=wr.drew) D M).atV oA (by simp [mm]);go_upto_region 8 with fail;refine ah true Old Old.refl Old.trans (.step 0 (.step 1 (.step 2 (.step 3 (.step 4 (.step 5 (.step 6 (.step 7 (.step 8 (.step 9 .done)))))))))) krA krA cdA ?_
   repeat refine txA ?_
   refine bM (v:= .slice none 0 0) rfl rfl rfA (fun W M=>by have:=B0.out W M;go_simp) ?_;simp only [Act.put,sTA,List.set]
   repeat refine txA ?_
   refine am rfl rfl rfA (fun K b=> ?_);refine eF (.tmp 34) (.tmp 35) 22 rfl dS rfl (Own.nil wr.drew wr.drew.heap.size 5 1) rfl (sF J.drew) (by rw [lmA,dj]) (cV _) mxA oA (VU _) ?_;intro a4 c4 I BY B1;have L:Below wr.drew.heap.size wr.drew I:=(Own.nil wr.drew wr.drew.heap.size 5 1).grown (VW _ _) (VU _) B1 (VU _);refine b _ _ L ?_;clear b K;have V:=Blk.old (w:=wr.drew) D L;have f4:=V.free;have B2:I.cell? ⟨B,17,none⟩=some (.slice none 0 0):=V.atV oA (by simp [mm])
   repeat refine txA ?_
   refine az rfl rfl rfA (fun K b=> ?_);go_wp2_with fail;refine aq ?_;clear f4 B2 f1 A9;go_wp2_with fail;go_ret;have U:Below w.heap.size w I:=aa H.drew L;refine ⟨B,a4,c4,rfl,A8,⟨(V.setV (show 17<18 by omega) _).ofV fun i hi=> ?_,?_⟩,U.setCell A8 _⟩
   .by_cases e:i=17
    .subst e;rw [Vz rfl,mm,VV oA,VV oA]
    .rw [VV e];unfold mm;by_cases f:i=0
     .rw [Vz f,Vz f]
     .rw [VV f,VV f,Vz (show i<17 by omega),Vz (show i<17 by omega)]
   .have h:=(BY.setCell_apart V dcA 17 (.slice a4 32 c4)).row;simp only [Wl] at h;exact h
def tgL (m:Le) (g n:Nat) (c:Le):Le:=c++dgl (kp m g n c)
theorem Am (m:Le) (g n:Nat) (c:Le):(tgL m g n c).length=c.length+32:=by simp [tgL,dj]
def TagP (w:As) (m:Le) (g n:Nat) (c:Le) (e:Ending) (w':As):Prop:=
 ∃(a:Lt) (k:Nat),e= .returned (.slice a (c.length+32) k)/\Own w' w.heap.size 5 1 a (c.length+32) k ((tgL m g n c).map bv)/\Below w.heap.size w w'
theorem rT (B:Nat) (m:Le) (g n:Nat) (ta:Lt) (tc:Nat) (ca:Lt) (J cc:Nat) (c:Le) (w:As) (o:uO w B m g ta tc) (hc:aj w ca c) (p:c.length=J) (C0:J<=100000) (hg:g<18446744073709551616) (hn:n<18446744073709551616):
  Calls prog 158 #[.pointer (some ⟨B,0,none⟩),.int .u64 (n:Int),.slice ca J cc] w (TagP w m g n c):=by
 have F:=Hd p;have B3:=Hd o;have q:=Hd hc;clear p hc;have c0:=o.game;clear o;go_enter func158,ntmps158;go_wp2_with fail;clear c0;refine (iX g hg _).mono ?_;rintro e w1 ⟨a1,c1,rfl,s,t⟩;go_wp2_with fail;refine (iX n hn _).mono ?_;rintro e w2 ⟨a2,c2,rfl,y,O⟩;have M:=s.old O;have P:=aa t O;have S:=P.size;have A0:=y.row;clear s t O y;go_upto_region 3 with (at_builtin;refine al rfl (.tmp 15) (.tmp 17) 22 rfl dS rfl M rfl A0 (by rw [lmA,aM]) (cV _) mxA oA S ?_);intro a3 c3 w3 T A1;have H:=M.grown P (VU _) A1 S;have U:=H.size;clear A1 M P S A0;have A2:=q.out.below H;go_upto_region 4 with (at_builtin;refine al rfl (.tmp 19) (.tmp 20) 22 rfl dS rfl T rfl A2 (by rw [lmA,F.out];omega) (cV _) mxA oA U ?_);intro a4 c4 w4 A3 A4;have V:=T.grown H (VU _) A4 U;have W:=B3.out.old V;have Y:aj w4 a4 (eY g++eY n++c):=by
  have:=A3.row;unfold aj;rw [VF,VF];exact this
 have Z:(eY g++eY n++c).length=8+8+J:=(by rw [laA,laA,aM,aM,F.out]);clear A4 T H U A2 A3;obtain ⟨bb,A⟩:=At (eY g++eY n++c);rw [<-A] at Y Z;have B4:=Hd A;have B5:=Hd Z;clear A Z;have B6:=W.tagv;go_wp2_with fail;clear B6;refine (zh (tkL m g) bb ta 32 tc a4 _ c4 _ W.tag (nA _ _) oA Y B5.out oA).mono ?_;unfold NH;rintro e L ⟨rfl,A5⟩;have A6:=aa V A5;clear V A5 W Y;obtain ⟨X,G⟩:=At (mcA (tkL m g) bb);have B7:X.size=32:=(by rw [G];exact ay _ _);have B9:X.toList.all (·.oneCell')=true:=(by rw [G];exact dF fun _ _=>rfl);have A7:X=dgA (kp m g n c):=(by rw [G,B4.out];rfl);rw [<-G];have HX:=Hd A7;clear G A7;go_upto_region 5 with (refine ae rfl 170 fX (.tmp 8) _ (cells:=X) rfl rfl rfl (Blk.new _ _ _) B7 rfl B9 ?_);obtain ⟨C,D⟩:=At L.heap.size;have b:=Blk.new L (vA 32 fun _=> .int .u8 0) 170;have A:=ak ((VW L.heap.size L).alloc (VU _) (.cells (vA 32 fun _=> .int .u8 0) 170)) (VM D.symm) X;rw [<-D] at b⊢;refine ag (fun W0=>Blk W0 C (dgA (kp m g n c)) 170/\Below w.heap.size w W0) ⟨by rw [<-HX.out];exact b.setRow _,aa A6 A⟩ ?_;clear b A D A6;rintro E ⟨D,I⟩;have A8:=I.size;have A9:=q.out.below I;go_upto_region 7 with (at_builtin;refine al rfl (.tmp 28) (.tmp 29) 22 rfl dS rfl (Own.nil E E.heap.size 5 1) rfl A9 (by rw [lmA,F.out];omega) (cV _) mxA oA (VU _) ?_);intro a7 c7 w7 BY B0;have f:Below E.heap.size E w7:=(Own.nil E E.heap.size 5 1).grown (VW _ _) (VU _) B0 (VU _);have B1:=D.old f;have j:=aa I f;have l:=j.size;have N:=BY.lower A8;clear B0 D I A8 A9 f BY;have q2:=sU C;go_wp2_with (at_builtin;refine al rfl (.tmp 31) (.tmp 32) 22 rfl dS rfl N rfl (sF B1) (by rw [lmA,dj]) (cV _) mxA oA l ?_);intro a8 c8 w8 CK B2;have CW:=N.grown j (VU _) B2 l;clear B2 B1 j l N q2;go_wp2_with fail;go_ret;refine ⟨a8,c8,?_,?_,CW⟩
 .rw [F.out];rfl
 .rw [F.out,tgL,VF];simpa using CK
def RslP (w:As) (m:Le) (g n:Nat) (b:Le) (e:Ending) (w':As):Prop:=
 ∃(a:Lt) (c:Nat),e= .returned (.tuple #[.slice a (b.length+32) c,.int .i64 0])/\Own w' w.heap.size 5 1 a (b.length+32) c ((fM m g n b).map bv)/\Below w.heap.size w w'
theorem Cx (B:Nat) (m:Le) (g n:Nat) (ta:Lt) (tc:Nat) (I:Lt) (bn S:Nat) (b:Le) (w:As) (J:uO w B m g ta tc) (T:aj w I b) (L:b.length=bn) (s:bn<=65504) (U:g<18446744073709551616) (V:n<18446744073709551616):
  Calls prog 133 #[.pointer (some ⟨B,0,none⟩),.int .u64 (n:Int),.slice I bn S] w (RslP w m g n b):=by
 have D:=Hd L;have X:=Hd J;have Y:=Hd T;clear L T;have t1:decide ((65504:Int)<(bn:Int))=false:=VO oA;have t:(bn:Int)<=65504:=oA;go_enter func133,ntmps133;go_upto_region 3 with fail;have E:=J.drew;clear J;refine aB (0::1::2::3::4::5::7::6::8::9::10::11::12::13::[]) krA krA cdA ?_
 repeat refine lxA ?_
 refine cR (v:= .agg (fA 16 (ckB m g))) rfl rfl rfA (fun W j=>aI 169 ee _ rfl rfl rfl (uO.old E j).key (dh _ _)) ?_;simp only [Act.put,sTA,List.set]
 repeat refine lxA ?_
 refine bh rfl rfl rfA (fun K C=> ?_);go_wp2_with fail;refine (se B g n _ E.game U V).mono ?_;unfold Ls;rintro e w2 ⟨rfl,A⟩;go_wp2_with fail;refine C _ _ A ?_;clear C K;have F:Below w.heap.size w w2:=⟨A.os,A.tape,A.output,A.size,A.block⟩;refine bh rfl rfl rfA (fun K C=> ?_);go_wp2_with fail;refine (qj (ckB m g) (oS g n) I bn S b _ (Y.out.below F) D.out oA).mono ?_;rintro e w3 ⟨l,o,rfl,M,G⟩;go_wp2_with fail;refine C _ _ G ?_;clear C K;have H:=aa F G;have Z:=M.row;clear A F G M
 repeat refine lxA ?_
 refine bJ ?_;have c:=X.out.old H;have N:(stm (ckB m g) (oS g n) b).length=bn:=(by rw [eM,D.out]);have O:=Hd N;clear N E;go_wp2_with fail;refine (rT B m g n ta tc l bn o _ _ c Z O.out oA U V).mono ?_;rintro e y ⟨p,q,rfl,P,f⟩;rw [O.out] at P⊢;go_wp2_with fail;go_ret2;exact ⟨p,q,by rw [D.out];rfl,by rw [D.out];exact P.lower H.size,aa H f⟩
theorem ropL (m:Le) (g n:Nat) (b:Le) (k:Nat) (E:b.length=k+32) (D:k<=65504):fO m g n b=if tgL m g n (b.take k)=b then (stm (ckB m g) (oS g n) (b.take k),0) else ([],60):=by
 unfold fO;rw [show b.length-32=k by omega];by_cases h:b.drop k=dgl (kp m g n (b.take k))
 .rw [Vz ⟨oA,oA,h⟩,Vz];rw [tgL,<-h,WP]
 .rw [VV (fun A=>h A.2.2),VV];intro A;apply h;have C:=WS (List.drop k) A;rw [tgL,XO (by rw [ltA];omega),Xr (by rw [ltA];omega),Wl] at C;exact C.symm
theorem sd (B:Nat) (m:Le) (g n:Nat) (ta:Lt) (tc:Nat) (D:Lt) (bn E:Nat) (b:Le) (w:As) (O:uO w B m g ta tc) (P:aj w D b) (Z:b.length=bn) (A3:bn<=E) (p:g<18446744073709551616) (q:n<18446744073709551616) (A4:bn<=140737488351232):
  Calls prog 144 #[.pointer (some ⟨B,0,none⟩),.int .u64 (n:Int),.slice D bn E] w (OpQ w m g n b):=by
 have J:=Hd Z;have y:=Hd O;have A0:=Hd P;clear Z;by_cases s:32<=bn/\bn<=65536
 .obtain ⟨A5,A6⟩:=s;obtain ⟨k,S⟩:∃k,bn=k+32:=⟨bn-32,oA⟩;have A1:k<=65504:=oA;have A:=ropL m g n b k (by rw [J.out];exact S) A1;have G:=Hd A;have e1:(bn:Int)-32=(k:Int):=oA;have A7:k<=E:=oA;have t1:decide ((bn:Int)<32)=false:=VO oA;have t2:decide ((65536:Int)<(bn:Int))=false:=VO oA;have hI:(bn:Int)<=65536:=oA;have c:aj w D (b.take k):=by
   have:=av.take k P;unfold aj;rw [WB];exact this
  have U:(b.take k).length=k:=(by rw [ltA,J.out];omega);have HK:=Hd S;have H:=Hd U;have V:=Hd c;clear A S U P c;go_enter func144,ntmps144;go_wp2_with fail;refine (rT B m g n ta tc D k E (b.take k) _ O V.out H.out oA p q).mono ?_;rintro e w2 ⟨a2,c2,rfl,L,M⟩;rw [H.out] at L⊢;have X:=L.row;clear O L;go_wp2_with fail;refine (Ax (tgL m g n (b.take k)) b a2 D _ c2 bn E _ X (by rw [Am,H.out]) oA (A0.out.below M) J.out oA).mono ?_;unfold EqP;rintro e w3 ⟨rfl,f⟩;have N:=aa M f;clear M f X e1;by_cases F:tgL m g n (b.take k)=b
  .have A:=G.out;rw [Vz F] at A;have T:=Hd A;rw [VK F];clear A F;go_upto_region 6 with fail;have j:=(y.out.old N).drew;refine aB (0::1::2::3::4::5::7::6::8::9::10::11::12::13::[]) krA krA cdA ?_
   repeat refine lxA ?_
   refine cR (v:= .agg (fA 16 (ckB m g))) rfl rfl rfA (fun W hW=>aI 169 ee _ rfl rfl rfl (uO.old j hW).key (dh _ _)) ?_;simp only [Act.put,sTA,List.set]
   repeat refine lxA ?_
   refine bh rfl rfl rfA (fun K I=> ?_);go_wp2_with fail;refine (se B g n _ j.game p q).mono ?_;unfold Ls;rintro e w4 ⟨rfl,C⟩;go_wp2_with fail;refine I _ _ C ?_;clear I K;have A2:Below w3.heap.size w3 w4:=⟨C.os,C.tape,C.output,C.size,C.block⟩;have Y:=aa N A2;refine bh rfl rfl rfA (fun K I=> ?_);go_wp2_with fail;refine (qj (ckB m g) (oS g n) D k E (b.take k) _ (V.out.below Y) H.out oA).mono ?_;rintro e w5 ⟨a5,c5,rfl,l,o⟩;go_wp2_with fail;refine I _ _ o ?_;clear I K
   repeat refine lxA ?_
   refine bJ ?_;have t:=aa Y o;go_wp2_with fail;go_ret2;exact ⟨a5,k,c5,_,0,rfl,T.out,by rw [eM,H.out],l.row,t,l.le⟩
  .have A:=G.out;rw [VV F] at A;have T:=Hd A;rw [VO F];clear A F;go_wp2_with fail;go_ret2;exact ⟨none,0,0,[],60,rfl,T.out,rfl,av.nil _ _,N,VU _⟩
 .have A:fO m g n b=([],60):=by
   unfold fO;rw [J.out,VV (fun h=>s ⟨h.1,h.2.1⟩)]
  have G:=Hd A;clear A;by_cases hs:bn<32
  .have t1:decide ((bn:Int)<32)=true:=VK oA;go_enter func144,ntmps144;go_wp2_with fail;go_ret2;exact ⟨none,0,0,[],60,rfl,G.out,rfl,av.nil _ _,VW _ _,VU _⟩
  .have t1:decide ((bn:Int)<32)=false:=VO oA;have t2:decide ((65536:Int)<(bn:Int))=true:=VK oA;go_enter func144,ntmps144;go_wp2_with fail;go_ret2;exact ⟨none,0,0,[],60,rfl,G.out,rfl,av.nil _ _,VW _ _,VU _⟩
end
section
open Go.RowKit
def EV (w:As) (m:Le) (l:List ao) (load:Le) (e:Ending) (w':As):Prop:=
 ∃h,e= .returned (.tuple #[dG (bG m l load).1 h,.bool (bG m l load).2])/\be w' w.heap.size (bG m l load).1 h/\Below w.heap.size w w'
def RunR (w:As) (m:Le) (gg N X:Nat) (b:Le) (v11 v12:Value) (W:As):Prop:=
 ∃(a:Lt) (k c:Nat) (l:Le) (er:Int),v11= .slice a k c/\v12= .int .i64 er/\fO m gg N b=(l,er)/\l.length=k/\aj W a l/\Below w.heap.size w W/\k<=c/\Blk W X cM 40
theorem xw (w:As) (ma:Lt) (mn mc:Nat) (m:Le) (a:Lt) (n c:Nat) (ds:List (ao×aY)) (la:Lt) (Y lc:Nat) (load:Le)
  (D3:aj w ma m) (D4:m.length=mn) (E2:mn<=1000000) (hr:av w a (eC ds)) (hn:ds.length=n) (hz:n<=1000000) (hl:aj w la load) (BY:load.length=Y) (D5:Y<=lc) (E3:Y<=65536):
  Calls prog 118 #[.slice ma mn mc,.slice a n c,.slice la Y lc] w (EV w m (aF ds) load):=by
 obtain ⟨S,hS⟩:=At (EV w m (aF ds) load);rw [<-hS];have s:=Hd hS;clear hS;have D6:aO (aF ds)<=1000000:=Vd (mZ _) (by rw [aF,lmA];omega);have C6:∀g,(ofG (aF ds) g).length<=1000000:=fun g=>Vd (Dc _ _) (by rw [aF,lmA];omega);have D7:=Hd C6;clear C6;go_enter func118,ntmps118;go_upto_region 2 with fail;obtain ⟨X,hX⟩:=At w.heap.size;rw [<-hX];refine ag (fun W=>Blk W X cM 40/\FAt W w.heap.size (X+1) la lc load ⟨load,false⟩/\Below w.heap.size w W) ⟨by subst hX;exact Blk.new2 w _ _ _,?_,by subst hX;exact cL⟩ ?_
 .refine ⟨0,⟨?_,(hl.alloc _).alloc _,hl.inB rfl,oA,Vt _,oA,oA⟩,skA⟩;rw [BY];subst hX;exact Blk.new2' w _ _ _
 rintro W1 ⟨bX,B3,B0⟩;have f:w.heap.size<=X:=VM hX.symm;clear hX;obtain ⟨C,hC⟩:=At (X+1);rw [<-hC] at B3⊢;have D8:X≠C:=oA;have E4:w.heap.size<=C:=oA;clear hC;have A:=jj W1 w.heap.size C _ lc _ _ B3 B0.size;go_wp2_with fail;refine A.mono ?_;clear A;rintro e W2 ⟨rfl,D9,B5⟩;have T:Blk W2 X cM 40:=(B5.block X bX.lt D8).trans bX;have Z:Below w.heap.size w W2:=B0.trans (B5.below (fun x hx=>by omega) B0.size);have M:=Hd (show bG m (aF ds) load=if (bp ⟨load,false⟩).2.bad=true\/(bp ⟨load,false⟩).1<0\/(aO (aF ds):Int)<(bp ⟨load,false⟩).1 then (kE,false)
  else if (fO m (bp ⟨load,false⟩).1.toNat (ofG (aF ds) (bp ⟨load,false⟩).1).length (bp ⟨load,false⟩).2.b).2≠0 then (kE,false)
  else ((gB (fO m (bp ⟨load,false⟩).1.toNat (ofG (aF ds) (bp ⟨load,false⟩).1).length (bp ⟨load,false⟩).2.b).1).1,decide ((gB (fO m (bp ⟨load,false⟩).1.toNat (ofG (aF ds) (bp ⟨load,false⟩).1).length (bp ⟨load,false⟩).2.b).1).2=0/\(gB (fO m (bp ⟨load,false⟩).1.toNat (ofG (aF ds) (bp ⟨load,false⟩).1).length (bp ⟨load,false⟩).2.b).1).1.game=(bp ⟨load,false⟩).1)&&bz (aF ds) (gB (fO m (bp ⟨load,false⟩).1.toNat (ofG (aF ds) (bp ⟨load,false⟩).1).length (bp ⟨load,false⟩).2.b).1).1) from rfl)
 have C7:=Hd (show (bp ⟨load,false⟩).2.bad=false->8<=Y/\(bp ⟨load,false⟩).2.b=load.drop 8 from fun h=>by
  unfold bp dW at h⊢;dsimp only at h⊢;by_cases h8:(8:Int)<0\/(load.length:Int)<8
  .rw [Vz h8] at h;cases h
  .rw [VV h8] at h⊢;exact ⟨oA,rfl⟩)
 obtain ⟨k,hk,EE⟩:=D9;have cB:W2.cell? ⟨C,2,none⟩=some (.bool (bp ⟨load,false⟩).2.bad):=hk.blk.cell rfl;clear B3 bX B0 B5 hk EE;generalize (bp ⟨load,false⟩).1=g at*;generalize (bp ⟨load,false⟩).2=s1 at*;cases A0:s1.bad with
 |true=>
  rw [A0] at cB;have E:bG m (aF ds) load=(kE,false):=(by rw [M.out,Vz (.inl A0)]);clear M;go_wp2_with (refine ae rfl 40 aZ (.tmp 6) _ rfl rfl rfl T rfl rfl rfA ?_);refine aX rfl aZ rfl (T.setRow _) rfl rfl rfl ?_;rw [s.out];unfold EV;rw [E];exact ⟨dN,rfl,ep _ _,ak Z f _⟩
 |false=>
  rw [A0] at cB;obtain ⟨h8,C8⟩:=C7.out A0;by_cases B6:g<0
  .have E:bG m (aF ds) load=(kE,false):=(by rw [M.out,Vz (.inr (.inl B6))]);have t0:decide (g<0)=true:=(by simpa using B6);clear M;go_wp2_with (refine ae rfl 40 aZ (.tmp 6) _ rfl rfl rfl T rfl rfl rfA ?_);refine aX rfl aZ rfl (T.setRow _) rfl rfl rfl ?_;rw [s.out];unfold EV;rw [E];exact ⟨dN,rfl,ep _ _,ak Z f _⟩
  have t0:decide (g<0)=false:=(by simpa using B6);have cg:=nJ W2 a n c ds (hr.below Z) hn hz;obtain ⟨gn,B7⟩:∃gn,aO (aF ds)=gn:=⟨_,rfl⟩;rw [B7] at cg D6 M;have E5:=Hd B7;clear B7;go_wp2_with fail;refine cg.mono ?_;clear cg;rintro e W3 ⟨rfl,EQ⟩;subst EQ;by_cases B9:(gn:Int)<g
  .have E:bG m (aF ds) load=(kE,false):=(by rw [M.out,Vz (.inr (.inr B9))]);have t1:decide ((gn:Int)<g)=true:=(by simpa using B9);clear M;go_wp2_with (refine ae rfl 40 aZ (.tmp 6) _ rfl rfl rfl T rfl rfl rfA ?_);refine aX rfl aZ rfl (T.setRow _) rfl rfl rfl ?_;rw [s.out];unfold EV;rw [E];exact ⟨dN,rfl,ep _ _,ak Z f _⟩
  have t1:decide ((gn:Int)<g)=false:=(by simpa using B9);obtain ⟨G,rfl⟩:∃G:Nat,g=(G:Int):=⟨g.toNat,oA⟩;have E:bG m (aF ds) load=_:=M.out.trans (VV (by rw [A0];rintro (h|h|h);exact absurd h dcA;omega;omega));rw [WN,C8] at E;obtain ⟨N,hN⟩:∃N,(ofG (aF ds) (G:Int)).length=N:=⟨_,rfl⟩;have E6:N<=1000000:=(by rw [<-hN];exact D7.out _);rw [hN] at E;have C9:=Hd hN;have DO:=Hd E;clear E M hN C7 C8 A0 cB;have E7:G<=1000000:=oA;have i1:IntKind.u64.wrap ((G:Nat):Int)=(G:Int):=(by simp [IntKind.wrap,IntKind.bits,IntKind.signed];omega);have i2:IntKind.u64.wrap ((N:Nat):Int)=(N:Int):=(by simp [IntKind.wrap,IntKind.bits,IntKind.signed];omega);have cn:=zf ma mn mc m G W3 (D3.below Z) D4 oA oA;go_wp2_with fail;refine cn.mono ?_;clear cn;rintro e W4 ⟨Bx,ta,tc,rfl,E8,B4,CK⟩;have CW:=T.old CK;have A8:=aa Z CK;have U:=aj.cutV hl BY D5 8 h8;clear T Z CK;go_upto_region 6 with fail;have D0:=Hd U;clear U;go_cut [11,12] (fun E0 E1 wx=>RunR w m G N X (load.drop 8) E0 E1 wx)
  case first=>
   have j1:(8:Int)<=(Y:Int):=oA;by_cases C0:lc=8
   .have hln8:Y=8:=oA;have U:=D0.out;rw [show lF la lc 8=la from Vz C0] at U;subst C0 hln8;refine aB (0::1::2::6::7::3::4::5::8::9::10::11::12::13::[]) krA krA cdA ?_
    repeat refine lxA ?_
    have A:=tM W4.drew a n c ds (G:Int) ((hr.below A8).below (VW _ _).drew) hn hz;rw [ue,C9.out] at A;refine bh rfl rfl rfA (fun K F=> ?_);go_wp2_with fail;refine A.mono ?_;clear A;rintro e W5 ⟨a5,c5,rfl,-,I⟩;go_wp2_with fail;refine F _ _ I ?_;clear F K
    repeat refine lxA ?_
    have A4:=aa A8.drew I;have A:=sd Bx m G N ta tc la 0 0 (load.drop 8) W5 (B4.drew.old I) (U.below A4) (by rw [ldA,BY];try omega) oA oA oA oA;refine bh rfl rfl rfA (fun K F=> ?_);go_wp2_with fail;refine A.mono ?_;clear A;rintro e W6 ⟨a6,k6,c6,t,O,rfl,j,A5,A1,l,A6⟩;go_wp2_with fail;refine F _ _ l ?_;clear F K
    repeat refine lxA ?_
    refine bJ ?_;go_wp2_with fail;go_meet;exact ⟨a6,k6,c6,t,O,rfl,rfl,j,A5,A1,aa A4 l,A6,(CW.drew.old I).old l⟩
   .have U:=D0.out;rw [show lF la lc 8=la.map (·.add 8) from by unfold lF;rw [VV C0,Vr]] at U;refine aB (0::1::2::6::7::3::4::5::8::9::10::11::12::13::[]) krA krA cdA ?_
    repeat refine lxA ?_
    have A:=tM W4.drew a n c ds (G:Int) ((hr.below A8).below (VW _ _).drew) hn hz;rw [ue,C9.out] at A;refine bh rfl rfl rfA (fun K F=> ?_);go_wp2_with fail;refine A.mono ?_;clear A;rintro e W5 ⟨a5,c5,rfl,-,I⟩;go_wp2_with fail;refine F _ _ I ?_;clear F K
    repeat refine lxA ?_
    have A4:=aa A8.drew I;have A:=sd Bx m G N ta tc (la.map (·.add 8)) (Y-8) (lc-8) (load.drop 8) W5 (B4.drew.old I) (U.below A4) (by rw [ldA,BY];try omega) oA oA oA oA;refine bh rfl rfl rfA (fun K F=> ?_);go_wp2_with fail;refine A.mono ?_;clear A;rintro e W6 ⟨a6,k6,c6,t,O,rfl,j,A5,A1,l,A6⟩;go_wp2_with fail;refine F _ _ l ?_;clear F K
    repeat refine lxA ?_
    refine bJ ?_;go_wp2_with fail;go_meet;exact ⟨a6,k6,c6,t,O,rfl,rfl,j,A5,A1,aa A4 l,A6,(CW.drew.old I).old l⟩
  case rest=>
   obtain ⟨a6,k6,c6,t,O,rfl,rfl,j,A5,A1,A9,A6,B1⟩:=hcut;have E:=DO.out;have E9:k6<=65536:=by
    have q:=vF m G N (load.drop 8);rw [j,ldA] at q;dsimp only at q;omega
   rw [j] at E;dsimp only at E;clear DO j CW B4;by_cases o:O=0;rotate_left 1
   .rw [Vz o] at E;have te:(O !=0)=true:=(by simpa using o);go_wp2_with (refine ae rfl 40 aZ (.tmp 6) _ rfl rfl rfl B1 rfl rfl rfA ?_);refine aX rfl aZ rfl (B1.setRow _) rfl rfl rfl ?_;rw [s.out];unfold EV;rw [E];exact ⟨dN,rfl,ep _ _,ak A9 f _⟩
   subst o;rw [VV skA] at E;have A:=DP wc a6 k6 c6 t A1 A5 oA A6;unfold jV at A;generalize (gB t).1=p at*;generalize (gB t).2=O at*;have A2:=Hd E;clear E A1;go_wp2_with fail;refine A.mono ?_;clear A;rintro e W7 ⟨H,rfl,J,C1⟩;have C2:=B1.old C1;have C5:=aa A9 C1;replace J:=J.lower (B':=w.heap.size) A9.size;rw [aD];clear B1 A9 C1;go_upto_region 10 with (refine ae rfl 40 aZ (.tmp 13) _ rfl rfl rfl (Blk.new _ _ _) rfl rfl rfl ?_);obtain ⟨D,hD⟩:=At W7.heap.size;rw [<-hD];have F0:X≠D:=(by have:=C2.lt;omega);refine ag (fun W=>Blk W D (af p H).toArray 40/\Below W7.heap.size W7 W) ⟨by rw [hD];exact (Blk.new _ _ _).setRow _,by rw [hD];exact ak ((VW _ _).alloc (VU _) _) (VU _) _⟩ ?_;clear hD;rintro W8 ⟨V,B2⟩;have L:=C2.old B2;have y:=aa C5 B2;replace J:=J.old B2;clear C2 C5 B2;replace V:=V.drew;replace L:=L.drew;replace y:=y.drew;replace J:=J.old (VW _ _).drew;have M2:∀W,au (fun x=>x=D) W8.drew W->W.cell? ⟨D,1,none⟩=some (.int .i64 p.game):=fun W P=>(show Blk W D (af p H).toArray 40 from (P.2 D rfl).trans V).cell rfl;by_cases o:O=0;rotate_left 1
   .have te:(O==0)=false:=(by simpa using o);have E:bG m (aF ds) load=(p,false):=(by rw [A2.out,VO (fun q=>o q.1)];rfl);clear A2;refine ah false (au (fun x=>x=D)) (au.refl _) (fun _ _ _ h1 h2=>au.trans h1 h2) (.step 0 (.step 1 (.step 2 (.step 3 (.step 4 (.step 5 (.step 6 (.step 7 (.step 8 (.step 9 (.step 10 (.step 11 (.step 12 (.step 13 (.step 14 (.step 15 .done)))))))))))))))) krA krA cdA ?_;refine bM (v:= .agg (af p H).toArray) rfl rfl rfA (fun W P=>aI 40 aZ (.tmp 13) rfl rfl rfl (Blk.cells ((P.2 D rfl).trans V)) rfl) ?_;simp only [Act.put,sTA,List.set]
    repeat refine txA ?_
    refine am rfl rfl rfA (fun K F=> ?_);refine bq 40 aZ _ _ rfl rfl rfl L rfl (VU _) rfA ?_;refine F _ _ ⟨by simp [World.setRow],fun x hx=>Xi _ _ _ _ (by subst hx;omega)⟩ ?_;clear F K
    repeat refine txA ?_
    refine aq ?_;go_wp2_with fail;refine aX rfl aZ rfl (L.setRow _) rfl rfl rfl ?_;rw [s.out];unfold EV;rw [E,nG];exact ⟨H,rfl,(J.row1 L dcA dcA _),ak y f _⟩
   subst o;by_cases A3:p.game=(G:Int);rotate_left 1
   .have te:(p.game==(G:Int))=false:=(by simpa using A3);have E:bG m (aF ds) load=(p,false):=(by rw [A2.out,VO (fun q=>A3 q.2)];rfl);clear A2;refine ah false (au (fun x=>x=D)) (au.refl _) (fun _ _ _ h1 h2=>au.trans h1 h2) (.step 0 (.step 1 (.step 2 (.step 3 (.step 4 (.step 5 (.step 6 (.step 7 (.step 8 (.step 9 (.step 10 (.step 11 (.step 12 (.step 13 (.step 14 (.step 15 .done)))))))))))))))) krA krA cdA ?_;refine bM (v:= .agg (af p H).toArray) rfl rfl rfA (fun W P=>aI 40 aZ (.tmp 13) rfl rfl rfl (Blk.cells ((P.2 D rfl).trans V)) rfl) ?_;simp only [Act.put,sTA,List.set]
    repeat refine txA ?_
    refine am rfl rfl rfA (fun K F=> ?_);refine bq 40 aZ _ _ rfl rfl rfl L rfl (VU _) rfA ?_;refine F _ _ ⟨by simp [World.setRow],fun x hx=>Xi _ _ _ _ (by subst hx;omega)⟩ ?_;clear F K
    repeat refine txA ?_
    refine aq ?_;go_wp2_with fail;refine aX rfl aZ rfl (L.setRow _) rfl rfl rfl ?_;rw [s.out];unfold EV;rw [E,nG];exact ⟨H,rfl,(J.row1 L dcA dcA _),ak y f _⟩
   have te:(p.game==(G:Int))=true:=(by simpa using A3);obtain ⟨fo,C3⟩:∃fo,bz (aF ds) p=fo:=⟨_,rfl⟩;have E:bG m (aF ds) load=(p,fo):=(by rw [A2.out,VK ⟨rfl,A3⟩,WU,C3]);have A:=ot W8.drew a n c ds p H (hr.below y) hn hz;rw [aD,C3] at A;have F1:=Hd A3;clear A2 A3 C3;refine ah false (au (fun x=>x=D)) (au.refl _) (fun _ _ _ h1 h2=>au.trans h1 h2) (.step 0 (.step 1 (.step 2 (.step 3 (.step 4 (.step 5 (.step 6 (.step 7 (.step 8 (.step 9 (.step 10 (.step 11 (.step 12 (.step 13 (.step 14 (.step 15 .done)))))))))))))))) krA krA cdA ?_;refine bM (v:= .agg (af p H).toArray) rfl rfl rfA (fun W P=>aI 40 aZ (.tmp 13) rfl rfl rfl (Blk.cells ((P.2 D rfl).trans V)) rfl) ?_;simp only [Act.put,sTA,List.set]
   repeat refine txA ?_
   refine bM (v:= .agg (af p H).toArray) rfl rfl rfA (fun W P=>aI 40 aZ (.tmp 13) rfl rfl rfl (Blk.cells ((P.2 D rfl).trans V)) rfl) ?_;simp only [Act.put,sTA,List.set];refine am rfl rfl rfA (fun K F=> ?_);go_wp2_with fail;refine A.mono ?_;clear A;rintro e W9 ⟨rfl,A7⟩;go_wp2_with fail;refine F _ _ ⟨A7.size,fun x hx=>by subst hx;exact A7.block _ V.lt⟩ ?_;clear F K;have C4:=L.old A7;have D1:=aa y A7;have D2:=J.old A7
   repeat refine txA ?_
   refine am rfl rfl rfA (fun K F=> ?_);refine bq 40 aZ _ _ rfl rfl rfl C4 rfl (VU _) rfA ?_;refine F _ _ ⟨by simp [World.setRow],fun x hx=>Xi _ _ _ _ (by subst hx;omega)⟩ ?_;clear F K
   repeat refine txA ?_
   refine aq ?_;go_wp2_with fail;refine aX rfl aZ rfl (C4.setRow _) rfl rfl rfl ?_;rw [s.out];unfold EV;rw [E,nG];exact ⟨H,rfl,(D2.row1 C4 dcA dcA _),ak D1 f _⟩
def Gf (l:List ao) (x:ao):Bool:=iE x&&bz l x
def ldL (m:Le) (l:List ao) (x:ao):Le:=if Gf l x=true then gO m l x else []
def ldE (l:List ao) (x:ao):Int:=if Gf l x=true then 0 else 2
def Iy (w:As) (m:Le) (l:List ao) (x:ao) (e:Ending) (w':As):Prop:=
 ∃(a:Lt) (c:Nat),e= .returned (.tuple #[.slice a (ldL m l x).length c,.int .i64 (ldE l x)])/\Own w' w.heap.size 5 1 a (ldL m l x).length c ((ldL m l x).map bv)/\Below w.heap.size w w'
theorem Iy.no {w w':As} {m:Le} {l:List ao} {x:ao} (h:Gf l x=false) (A:Below w.heap.size w w'):Iy w m l x (.returned (.tuple #[.slice none 0 0,.int .i64 2])) w':=by
 have C:ldL m l x=[]:=(by unfold ldL;rw [VV (by simp [h])]);have D:ldE l x=2:=(by unfold ldE;rw [VV (by simp [h])]);unfold Iy;rw [C,D];exact ⟨none,0,rfl,Own.nil _ _ _ _,A⟩
theorem CE (w:As) (ma:Lt) (Z mc:Nat) (m:Le) (a:Lt) (n c:Nat) (ds:List (ao×aY)) (x:ao) (I:aY)
  (CK:aj w ma m) (CW:m.length=Z) (D5:Z<=1000000) (hr:av w a (eC ds)) (hn:ds.length=n) (hz:n<=1000000) (hd:dp w x I) (C0:(bj x).length<=65504) (C1:(bZ x.act).length+5000<100000000):
  Calls prog 100 #[.slice ma Z mc,.slice a n c,dG x I] w (Iy w m (aF ds) x):=by
 obtain ⟨S,hS⟩:=At (Iy w m (aF ds) x);rw [<-hS];have HS:=Hd hS;clear hS;have C2:aO (aF ds)<=1000000:=Vd (mZ _) (by rw [aF,lmA];omega);have A9:(ofG (aF ds) x.game).length<=1000000:=Vd (Dc _ _) (by rw [aF,lmA];omega);rw [aD];go_enter func100,ntmps100;go_upto_region 1 with fail;obtain ⟨X,b⟩:=At w.heap.size;rw [<-b];refine ag (fun W=>Blk W X (af x I).toArray 40/\Below w.heap.size w W) ⟨by subst b;exact Blk.new w _ _,by subst b;exact cL⟩ ?_;rintro W1 ⟨bX,P⟩;clear b;go_wp2_with (refine ap rfl 40 aZ (.tmp 5) rfl rfl bX rfl ?_);have C:=AC x I W1 (hd.old P) C1;rw [aD] at C;unfold iK at C;cases J:iE x with
 |false=>
  simp only [J,YR,if_false] at C;have C3:Gf (aF ds) x=false:=(by unfold Gf;rw [J];rfl);refine C.mono ?_;clear C;rintro e W2 ⟨rfl,E⟩;go_wp2_with fail;rw [HS.out];exact Iy.no C3 (aa P E)
 |true=>
  simp only [J,YV] at C;have HM:=Hd J;clear J;refine C.mono ?_;clear C;rintro e W2 ⟨b2,k2,rfl,BY,E⟩;have p:=bX.old E;have O:=aa P E;clear bX P E;have L:=ot W2 a n c ds x I (hr.below O) hn hz;rw [aD] at L;obtain ⟨f,D⟩:∃f,bz (aF ds) x=f:=⟨_,rfl⟩;rw [D] at L;have T:Gf (aF ds) x=f:=(by unfold Gf;rw [HM.out,D];rfl);have A2:=p.rule;unfold af at A2 L;go_wp2_with fail;refine L.mono ?_;clear L A2;rintro e W3 ⟨rfl,F⟩;cases f with
  |false=>
   clear D;go_wp2_with fail;rw [HS.out];exact Iy.no T (aa O F)
  |true=>
   obtain ⟨A,G⟩:∃A:Nat,x.game=(A:Int):=⟨x.game.toNat,by have:=(dI D).1;omega⟩;have D6:A<=1000001:=by
    have h1:=(dI D).2.1;rw [gj] at h1;split at h1<;>omega
   obtain ⟨N,j⟩:∃N,(ofG (aF ds) (A:Int)).length=N:=⟨_,rfl⟩;have D7:N<=1000000:=(by rw [<-j,<-G];exact A9);have B0:ldL m (aF ds) x=be8 (A:Int)++fM m A N (bj x):=by
    unfold ldL;rw [Vz T];unfold gO;rw [G,WN,j]
   have B1:ldE (aF ds) x=0:=(by unfold ldE;rw [Vz T]);have HN:=Hd j;have C4:=Hd B0;have C5:=Hd B1;clear j B0 B1 D T A9 C2;have q:=p.old F;have l:=aa O F;have B2:=BY.old F;have A3:=q.rule;unfold af at A3;rw [G] at A3;have B3:=Hd G;clear G p O F BY;have i1:IntKind.u64.wrap ((A:Nat):Int)=(A:Int):=(by simp [IntKind.wrap,IntKind.bits,IntKind.signed];omega);have i2:IntKind.u64.wrap ((N:Nat):Int)=(N:Int):=(by simp [IntKind.wrap,IntKind.bits,IntKind.signed];omega);have cn:=zf ma Z mc m A W3 (CK.below l) CW oA oA;go_wp2_with fail;refine cn.mono ?_;clear cn;rintro e W4 ⟨Bx,ta,tc,rfl,D8,A5,U⟩;have s:=q.old U;have o:=aa l U;have B4:=B2.old U;have A4:=s.rule;unfold af at A4;rw [B3.out] at A4;clear A3 q l U B2;have co:=tM W4 a n c ds (A:Int) (hr.below o) hn hz;rw [ue,HN.out] at co;go_wp2_with fail;refine co.mono ?_;clear co;rintro e W5 ⟨a5,c5,rfl,-,H⟩;have B5:=s.old H;have A7:=aa o H;have B6:=B4.old H;have A1:=A5.old H;clear A4 s o H B4 A5;have cs:=Cx Bx m A N ta tc b2 _ k2 (bj x) W5 A1 B6.row rfl C0 oA oA;go_wp2_with fail;refine cs.mono ?_;clear cs;rintro e M ⟨a6,c6,rfl,C6,V⟩;have C7:=B5.old V;have A8:=aa A7 V;have A6:=C7.rule;unfold af at A6;rw [B3.out] at A6;have D9:W5.heap.size<=M.heap.size:=V.size;clear B5 A7 V B6 A1;have C:=ie M M.heap.size none 0 0 [] (A:Int) (Own.nil _ _ _ _) rfl (VU _) oA;have B7:(fM m A N (bj x)).length=(bj x).length+32:=dX _ _ _ _;generalize (bj x).length=kb at*;go_wp2_with fail;refine C.mono ?_;clear C;intro e W7 g7;obtain ⟨l7,a7,c7,rfl,t,C8,y,C9⟩:=g7.get (an _);have Y:=C8.1;have DO:av W7 a6 ((fM m A N (bj x)).map bv):=C6.row.below Y;have A0:l7.length=8:=(by rw [y.out];exact an _);have D0:=Hd A0;have D1:=Hd y.out;have B9:=Hd B7;rw [A0] at t⊢;clear A0 y B7 C9;go_wp2_with (at_builtin;refine al rfl _ _ 22 rfl dU rfl t rfl DO (by rw [lmA,B9.out,Vr]) (cV _) mxA oA Y.size ?_);intro a8 c8 W8 D2 D3;have D4:Below M.heap.size M W8:=t.grown Y (VU _) D3 Y.size;go_wp2_with fail;rw [HS.out];have e8:ldL m (aF ds) x=l7++fM m A N (bj x):=by rw [C4.out,D1.out];rfl
   have n8:(l7++fM m A N (bj x)).length=8+(kb+32):=(by rw [laA,D0.out,B9.out]);unfold Iy;rw [C5.out,e8,n8];exact ⟨a8,c8,rfl,by rw [VF];exact D2.lower (by have:=A8.size;omega),aa A8 D4⟩
def RScP (w:As) (m:Le) (ls:List Le) (e:Ending) (w':As):Prop:=
 ∃a c ds,e= .returned (.tuple #[.slice a ds.length c,.int .i64 ((aA (ls.take ds.length)).length:Int)])/\aF ds=fN m [] ls/\bW w' w.heap.size a c ds/\Below w.heap.size w w'
def Qy (w:As) (m:Le) (ls:List Le) (n:Nat) (f:Nat) (v6 v7 v8:Value) (wr:As):Prop:=
 ∃(k:Nat) (a:Lt) (c:Nat) (ds:List (ao×aY)),k+f=n/\v8= .int .i64 (k:Int)/\ds.length=k/\v6= .slice a k c/\v7= .int .i64 ((aA (ls.take k)).length:Int)/\fN m (aF ds) (ls.drop k)=fN m [] ls/\bW wr w.heap.size a c ds/\Below w.heap.size w wr
theorem mP (ls:List Le) (k:Nat) (A:k<ls.length):(aA (ls.take (k+1))).length=(aA (ls.take k)).length+(8+(ls[k]).length):=by
 rw [Vj A];unfold aA;rw [VF,YJ,laA];simp [bU]
theorem lz (ls:List Le) (h:∀x∈ls,x.length<=65536):∀k,(aA (ls.take k)).length<=k*65544
 |0=>by simp [aA]
 |k+1=>by
  have C:=lz ls h k;by_cases A:k<ls.length
  .rw [mP ls k A];have:=h _ (VQ A);omega
  .have e1:ls.take (k+1)=ls:=VZ (Vd (ZM A) (YP k));have D:ls.take k=ls:=VZ (ZM A);rw [e1];rw [D] at C;have E:k*65544<=(k+1)*65544:=Ws _ (YP k);exact Vd C E
theorem xA (w:As) (ma:Lt) (V mc:Nat) (m:Le) (a:Lt) (n c:Nat) (ls:List Le) (B5:aj w ma m) (B6:m.length=V) (B7:V<=1000000) (hp:zX w a ls) (hn:ls.length=n) (hz:n<=4096) (A6:∀x∈ls,x.length<=65536):
  Calls prog 70 #[.slice ma V mc,.slice a n c] w (RScP w m ls):=by
 obtain ⟨S,hS⟩:=At (RScP w m ls);rw [<-hS];have HS:=Hd hS;have HN:=Hd hn;have A7:=Hd A6;clear hS hn A6;go_enter func70,ntmps70;go_wp2_with fail;go_loopg [6,7,8] n (fun f v6 v7 v8 wr=>Qy w m ls n f v6 v7 v8 wr)
 case atStart=>exact ⟨0,none,0,[],oA,rfl,rfl,rfl,by simp [aA],by simp [aF],bW.nil _ _,VW _ _⟩
 case round=>
  obtain ⟨k,a',c',ds,hf,rfl,A8,rfl,rfl,A9,N,E⟩:=hrel;have HF:=Hd hf;have F:=Hd A8;have l:=Hd A9;have C4:=lz ls A7.out k;clear hf A8 A9;by_cases hk:k<n
  .have t0:decide ((k:Int)<(n:Int))=true:=soA;have O:k<ls.length:=(by rw [HN.out];exact hk);obtain ⟨b,o,A,C,rfl,I,hA,q,C5⟩:=hp k O;have P:=Vx w _ I;have T:wr.cell? ⟨b,o+k,none⟩=some (.slice A (ls[k]).length C):=(by rw [E.cell (p:=⟨b,o+k,none⟩) P];exact I);have X:=Hd (mP ls k O);have BY:=Hd (show ls.drop k=ls[k]::ls.drop (k+1) from XT O);have s:=A7.out _ (VQ O);obtain ⟨x,hx⟩:=At (ls[k]);rw [<-hx] at T hA q s X BY;have t:w.cell? ⟨b,o+k,none⟩=some (.slice A x.length C):=(by rw [hx];exact I);clear I hx;obtain ⟨D,B0⟩:∃D,x.length=D:=⟨_,rfl⟩;rw [B0] at T q s X t;have B9:=Hd t;clear t;have B3:ds.length=k:=F.out;have A2:=N.row.row;have cu:=xw wr ma V mc m a' k c' ds A D C x (B5.below E) B6 B7 A2 F.out oA (hA.below E) B0 q s;have HU:=Hd (show fN m (aF ds) (ls.drop k)=if (bG m (aF ds) x).2 then fN m (aF ds++ [(bG m (aF ds) x).1]) (ls.drop (k+1)) else aF ds by rw [BY.out];rfl);unfold EV at cu;clear B3 A2;go_wp2_with fail;refine cu.mono ?_;clear cu;rintro e w2 ⟨h,rfl,G,U⟩;generalize (bG m (aF ds) x).1=p at*;generalize (bG m (aF ds) x).2=ok at*;rw [aD];have A3:=N.old U;have j:=aa E U;replace G:=G.lower (B':=w.heap.size) E.size;have A4:w2.cell? ⟨b,o+k,none⟩=some (.slice A D C):=(by rw [U.cell (p:=⟨b,o+k,none⟩) (VP P E.size)];exact T);clear E U N T;go_upto_region 7 with (refine ae rfl 40 aZ (.tmp 9) _ rfl rfl rfl (Blk.new _ _ _) rfl rfl rfl ?_);obtain ⟨Y,Z⟩:=At w2.heap.size;rw [<-Z];refine ag (fun W=>Blk W Y (af p h).toArray 40/\Below w2.heap.size w2 W) ⟨by rw [Z];exact (Blk.new _ _ _).setRow _,by rw [Z];exact ak ((VW _ _).alloc (VU _) _) (VU _) _⟩ ?_;clear Z;rintro w3 ⟨bY,H⟩;have L:=A3.old H;have M:=aa j H;replace G:=G.old H;have C1:w3.cell? ⟨b,o+k,none⟩=some (.slice A D C):=(by rw [H.cell (p:=⟨b,o+k,none⟩) (VP P j.size)];exact A4);clear H A3 j A4;cases y:ok with
   |false=>
    have A5:aF ds=fN m [] ls:=(by rw [<-l.out,HU.out,y];rfl);have B4:=Hd A5;clear A5;go_wp2_with fail;rw [HS.out];exact ⟨a',c',ds,by rw [F.out];rfl,B4.out,L,M⟩
   |true=>
    have A1:fN m (aF (ds++ [(p,h)])) (ls.drop (k+1))=fN m [] ls:=by
     rw [<-l.out,HU.out,y,Vz rfl];simp [aF]
    have CK:=Hd A1;have C2:(af p h).length=15:=rfl;have C6:=M.size;have J:=L.row;rw [F.out] at J;have i1:IntKind.i64.wrap ((8:Int)+(D:Int))=((8+D:Nat):Int):=(by rw [VR];omega);have i2:IntKind.i64.wrap (((aA (ls.take k)).length:Int)+((8+D:Nat):Int))=((aA (ls.take (k+1))).length:Int):=(by rw [X.out,VR];omega);clear A1 y;go_wp2_with (first|refine ap rfl 40 aZ (.tmp 9) rfl rfl bY rfl ?_|(at_builtin;rw [jT];refine al rfl _ _ 23 rfl sG rfl (J.alloc _) rfl (av.new' w3 (af p h).toArray 40 _ rfl) rfA (by exact de _ rfl) mxA oA soA ?_));intro a5 c5 w5 B1 A0;have CW:=L.more G A0 B1 F.out;have B2:Below w.heap.size w w5:=(J.alloc _).grown (M.alloc M.size _) skA A0 soA;have C0:Below w3.heap.size w3 (w3.alloc (.cells (af p h).toArray 40)):=(VW _ _).alloc (VU _) _;have C3:w5.cell? ⟨b,o+k,none⟩=some (.slice A D C):=(by rw [B2.cell (p:=⟨b,o+k,none⟩) P];exact B9.out);clear J A0 B1 C0 G L bY;go_wp2_with fail;go_roundg (gk-1)
    case rel=>
     refine ⟨k+1,a5,c5,ds++ [(p,h)],by have:=HF.out;omega,gnA,by simp [F.out],rfl,?_,CK.out,CW,B2⟩;rw [X.out];exact WS _ oA
    case measure=>have:=HF.out;omega
  .have t0:decide ((k:Int)<(n:Int))=false:=soA;have HE:=Hd (show aF ds=fN m [] ls by
    have h:=l.out;rw [Xp (by rw [HN.out];omega)] at h;exact h)
   go_wp2_with fail;rw [HS.out];exact ⟨a',c',ds,by rw [F.out];rfl,HE.out,N,E⟩
end
section
open Go.RowKit Go.Maps
theorem cS.turn {w w':As} {B:Nat} {r:cz} {F:Nat->Prop} (h:cS w B r) (A:aJ F w w') (C:∀x,eJ r x->F x->False):cS w' B r:=
 h.keep fun x hx=>A.block x (h.lt hx).2 fun D=>C x hx D
structure lq (w:As) (B:Nat) (d:Nat) (R:jo):Prop where
 ge:B<=R.l
 blk:Blk w R.l #[.pointer (some ⟨d,0,none⟩),.string R.nm,.slice R.a R.ls.length R.c,.int .i64 (R.sure:Int)] 126
 rows:aU w B 22 5 R.a R.ls.length R.c R.vs R.ls
 cnt:R.ls.length<=4096
 lens:∀x∈R.ls,x.length<=65536
 nmz:R.nm.size<=maxLen
 sle:R.sure<=R.ls.length
def fW (R:jo) (x:Nat):Prop:=x=R.l\/(∃ad,R.a=some ad/\x=ad.block)\/∃ad m C,Value.slice (some ad) m C∈R.vs/\x=ad.block
section
variable {w w':As} {B d:Nat} {R R' R'':jo} {r r' r'':cz}
theorem lq.keep (h:lq w B d R) (A:∀x,fW R x->w'.heap[x]? =w.heap[x]?):lq w' B d R:=
 ⟨h.ge,(A _ (.inl rfl)).trans h.blk,h.rows.keep (fun x hx=>A _ (.inr (.inl ⟨x,hx,rfl⟩))) (fun D m C E=>A _ (.inr (.inr ⟨D,m,C,E,rfl⟩))),h.cnt,h.lens,h.nmz,h.sle⟩
theorem lq.lt (h:lq w B d R) {x:Nat} (hx:fW R x):B<=x/\x<w.heap.size:=by
 rcases hx with rfl|⟨E,F,rfl⟩|⟨E,m,C,G,rfl⟩
 .exact ⟨h.ge,h.blk.lt⟩
 .obtain ⟨A,D,_⟩:=h.rows.1.block_lt F;exact ⟨A,D⟩
 .obtain ⟨A,D,_⟩:=h.rows.inner G;exact ⟨A,D⟩
theorem lq.old (h:lq w B d R) (A:Below w.heap.size w w'):lq w' B d R:=h.keep fun x hx=>A.block x (h.lt hx).2
structure RDL (w:As) (B:Nat) (r:cz) (R:jo):Prop where
 disk:cS w B r
 log:lq w B r.d R
 apart:∀x,fW R x->¬eJ r x
theorem RDL.keep (h:RDL w B r R) (A:∀x,eJ r x\/fW R x->w'.heap[x]? =w.heap[x]?):RDL w' B r R:=⟨h.disk.keep fun x hx=>A x (.inl hx),h.log.keep fun x hx=>A x (.inr hx),h.apart⟩
theorem RDL.lt (h:RDL w B r R) {x:Nat} (hx:eJ r x\/fW R x):B<=x/\x<w.heap.size:=hx.elim h.disk.lt h.log.lt
theorem RDL.old (h:RDL w B r R) (A:Below w.heap.size w w'):RDL w' B r R:=h.keep fun x hx=>A.block x (h.lt hx).2
structure eZ (B:Nat) (w:As) (r:cz) (R:jo) (w':As) (r':cz) (R':jo):Prop where
 turn:aJ (fun x=>eJ r x\/fW R x) w w'
 at':RDL w' B r' R'
 foot':∀x,eJ r' x\/fW R' x->(eJ r x\/fW R x)\/w.heap.size<=x
 d:r'.d=r.d
 l:R'.l=R.l
 nm:R'.nm=R.nm
theorem eZ.trans {C:As} (h:eZ B w r R w' r' R') (h':eZ B w' r' R' C r'' R''):eZ B w r R C r'' R'':=
 ⟨h.turn.trans h'.turn h.foot',h'.at',fun x hx=>by
  rcases h'.foot' x hx with A|A
  .exact h.foot' x A
  .exact .inr (Vd h.turn.size A),h'.d.trans h.d,h'.l.trans h.l,h'.nm.trans h.nm⟩
theorem eZ.old (h:RDL w B r R) (A:Below w.heap.size w w'):eZ B w r R w' r R:=⟨aJ.of_below A,h.old A,fun _ hx=> .inl hx,rfl,rfl,rfl⟩
theorem cj.log (A:cj B w r w' r') (h:RDL w B r R):eZ B w r R w' r' R:=by
 refine ⟨A.turn.mono fun _ hx=> .inl hx,⟨A.at',?_,fun x hx C=> ?_⟩,fun x hx=> ?_,A.d,rfl,rfl⟩
 .rw [A.d];exact h.log.keep fun x hx=>A.turn.block x (h.log.lt hx).2 (h.apart x hx)
 .rcases A.foot' x C with h1|h1
  .exact h.apart x hx h1
  .have:=(h.log.lt hx).2;omega
 .rcases hx with hx|hx
  .rcases A.foot' x hx with h1|h1
   .exact .inl (.inl h1)
   .exact .inr h1
  .exact .inl (.inr hx)
end
section
variable {w w1 w2 w3:As} {B:Nat} {r:cz} {R:jo}
theorem xI (h:RDL w1 B r R) (hB:B<=w1.heap.size) {A:Lt} {m C:Nat} {l:Le} (S:Below w1.heap.size w1 w2) (hm:l.length=m) (hx:Own w2 w1.heap.size 5 1 A m C (l.map bv)) {G:Lt} {c2:Nat}
  (h':Own w3 B 22 1 G (R.ls.length+1) c2 (R.vs++ [.slice A m C])) (I:w2.grownBy w3 (bI R.a R.c)) (J:bI G c2=bI R.a R.c\/∃b,bI G c2=some b/\w2.heap.size<=b) (A3:R.ls.length<4096) (s:l.length<=65536):
  eZ B w1 r R (w3.setCell ⟨R.l,2,none⟩ (.slice G (R.ls.length+1) c2)) r {R with a:=G,c:=c2,vs:=R.vs++ [.slice A m C],ls:=R.ls++ [l]}:=by
 have A0:0<c2:=(by have:=h'.le;omega);have p:=h.log.rows.old S;have A1:w2.grownBy w3 (Value.slice R.a R.ls.length R.c).ownBlock:=by
  refine ⟨I.os,I.tape,I.output,I.size,fun k L Z=>I.block k L fun e=> ?_⟩;obtain ⟨D,E,rfl⟩:=il e.symm;rw [E] at Z;exact Z rfl
 have T:=p.snoc (x:=l) dcA A1 hm hx hB h';have f:aJ (fun k=>k=R.l\/∃D,R.a=some D/\k=D.block) w1 (w3.setCell ⟨R.l,2,none⟩ (.slice G (R.ls.length+1) c2)):=by
  refine aJ.setCell ?_ (.inl (.inl rfl)) _;refine (aJ.of_below S).trans (aJ.of_grown (F:=fun k=>∃D,R.a=some D/\k=D.block) I fun k e=>il e) fun k L=> .inl (.inr L)
 have j:∀k,(k=R.l\/∃D,R.a=some D/\k=D.block)->fW R k:=fun k L=>L.elim .inl fun h=> .inr (.inl h);have t:∀D,G=some D->(∃P,R.a=some P/\D.block=P.block)\/w1.heap.size<=D.block:=fun D V=>by
  have e:=Cz V A0;rcases J with J|⟨b,J,A2⟩
  .rw [e] at J;exact .inl (il J.symm)
  .rw [e] at J;cases J;exact .inr (Vd S.size A2)
 have hA:∀D M N,Value.slice (some D) M N= .slice A m C->w1.heap.size<=D.block:=fun D M N e=>by
  simp only [Vi] at e;exact (hx.block_lt e.1.symm).1
 have U:Blk w3 R.l #[.pointer (some ⟨r.d,0,none⟩),.string R.nm,.slice R.a R.ls.length R.c,.int .i64 (R.sure:Int)] 126:=by
  refine (h.log.blk.old S).grown I fun e=> ?_;obtain ⟨D,E,W⟩:=il e;obtain ⟨_,_,n,O⟩:=h.log.rows.1.block_lt E;exact Blk.ne O h.log.blk dcA W.symm
 have X:∀x,x≠R.l->(w3.setCell ⟨R.l,2,none⟩ (.slice G (R.ls.length+1) c2)).heap[x]? =w3.heap[x]? :=fun x hx=>Vq w3 ⟨R.l,2,none⟩ x _ hx;have y:lq (w3.setCell ⟨R.l,2,none⟩ (.slice G (R.ls.length+1) c2)) B r.d {R with a:=G,c:=c2,vs:=R.vs++ [.slice A m C],ls:=R.ls++ [l]}:=by
  refine ⟨h.log.ge,?_,?_,soA,?_,h.log.nmz,by have:=h.log.sle;simp;omega⟩
  .have:=U.set 2 (.slice G (R.ls.length+1) c2);simpa using this
  .rw [show (R.ls++ [l]).length=R.ls.length+1 by simp];refine T.keep (fun x hx=>X _ ?_) (fun D M N H=>X _ ?_)
   .obtain ⟨_,_,n,O⟩:=T.1.block_lt hx;exact Blk.ne O U dcA
   .obtain ⟨_,_,n,O⟩:=T.inner H;exact Blk.ne O U dcA
  .intro x hx;rcases Ve.1 hx with hx|hx
   .exact h.log.lens x hx
   .rw [VS.1 hx];exact s
 have q:cS (w3.setCell ⟨R.l,2,none⟩ (.slice G (R.ls.length+1) c2)) B r:=h.disk.turn f fun x hx hF=>h.apart x (j x hF) hx;have Y:∀x,fW {R with a:=G,c:=c2,vs:=R.vs++ [.slice A m C],ls:=R.ls++ [l]} x->fW R x\/w1.heap.size<=x:=by
  intro x hx;rcases hx with rfl|⟨D,V,rfl⟩|⟨D,M,N,H,rfl⟩
  .exact .inl (.inl rfl)
  .rcases t D V with ⟨P,E,W⟩|E
   .exact .inl (.inr (.inl ⟨P,E,W⟩))
   .exact .inr E
  .rcases Ve.1 H with H|H
   .exact .inl (.inr (.inr ⟨D,M,N,H,rfl⟩))
   .exact .inr (hA D M N (VS.1 H))
 refine ⟨f.mono fun k L=> .inr (j k L),⟨q,y,fun x hx o=> ?_⟩,fun x hx=> ?_,rfl,rfl,rfl⟩
 .rcases Y x hx with E|E
  .exact h.apart x E o
  .have:=(h.disk.lt o).2;omega
 .rcases hx with hx|hx
  .exact .inl (.inl hx)
  .rcases Y x hx with E|E
   .exact .inl (.inr E)
   .exact .inr E
theorem Cw (h:RDL w B r R) (n:Nat) (G:n=R.ls.length):eZ B w r R (w.setCell ⟨R.l,3,none⟩ (.int .i64 (n:Int))) r {R with sure:=n}:=by
 subst G;have C:aJ (fun k=>k=R.l) w (w.setCell ⟨R.l,3,none⟩ (.int .i64 (R.ls.length:Int))):=(aJ.refl (fun k=>k=R.l) w).setCell (x:=⟨R.l,3,none⟩) (.inl rfl) _;have D:∀x,x≠R.l->(w.setCell ⟨R.l,3,none⟩ (.int .i64 (R.ls.length:Int))).heap[x]? =w.heap[x]? :=fun x hx=>Vq w ⟨R.l,3,none⟩ x _ hx;refine ⟨C.mono fun k H=> .inr (.inl H),⟨h.disk.turn C fun x hx e=>h.apart x (.inl e) hx,⟨h.log.ge,?_,?_,h.log.cnt,h.log.lens,h.log.nmz,VU _⟩,h.apart⟩,fun x hx=> .inl hx,rfl,rfl,rfl⟩
 .have:=h.log.blk.set 3 (.int .i64 (R.ls.length:Int));simpa using this
 .refine h.log.rows.keep (fun x hx=>D _ ?_) (fun I J L E=>D _ ?_)
  .obtain ⟨_,_,F,A⟩:=h.log.rows.1.block_lt hx;exact Blk.ne A h.log.blk dcA
  .obtain ⟨_,_,F,A⟩:=h.log.rows.inner E;exact Blk.ne A h.log.blk dcA
end
theorem KE:bC prog 22 5 1 1:=bC.mk (z:= .int .u8 0) underlying22 krA rfl oA
def zW (B:Nat) (w:As) (r:cz) (R:jo) (l:Le) (e:Ending) (w':As):Prop:=
 e= .returned (.tuple #[.int .i64 (oU r.p R l),.int .i64 (iH r.p R l)])/\∃r' R',r'.p=kq r.p R l/\R'.ls=mr r.p R l/\R'.sure=R.sure/\eZ B w r R w' r' R'
theorem vr (w:As) (B:Nat) (r:cz) (R:jo) (h:RDL w B r R) (hB:B<=w.heap.size) (a:Lt) (len cap:Nat) (l:Le) (hl:aj w a l) (b:l.length=len) (B4:l≠ []->∀Y,a=some Y->¬(eJ r Y.block\/fW R Y.block)):
  Calls prog 101 #[.pointer (some ⟨R.l,0,none⟩),.slice a len cap] w fun e w'=>zW B w r R l e w':=by
 have L:=Hd b;have F:=rI a len cap l w hl b;clear b;have o:=h.log.blk.rule;by_cases C:fi l.length=0
 .rw [<-L.out,C] at F;have S:=Hd (vx C);by_cases V:4096<=R.ls.length
  .have HC:=Hd (vW (p:=r.p) C V);have t0:decide ((4096:Int)<=(R.ls.length:Int))=true:=soA;clear C V;go_enter func101,ntmps101;go_wp2_with fail;rw [L.out] at F;refine F.mono ?_;clear F;rintro e w1 ⟨t,n1,D,rfl,N,M,G⟩;have A:=h.old G;have f:=A.log.blk.rule;clear o;go_wp2_with fail;go_ret2;obtain ⟨D,c2,E,I⟩:=HC.out;exact ⟨by rw [D,c2];first|rfl|simp,r,R,E.symm,I.symm,rfl,eZ.old h G⟩
  .have t0:decide ((4096:Int)<=(R.ls.length:Int))=false:=soA;have Z:=Hd V;have HE:=Hd C;clear C V;go_enter func101,ntmps101;go_wp2_with fail;rw [L.out] at F;refine F.mono ?_;clear F;rintro e w1 ⟨t,n1,D,rfl,N,M,G⟩;rw [S.out.2.2] at N M;have A:=h.old G;have f:=A.log.blk.rule;have BY:=G.size;have A0:B<=w1.drew.heap.size:=Vd hB BY;have A3:RDL w1.drew B r R:=A.keep fun _ _=>rfl;have B5:=Hd M;have B0:n1<=maxLen:=(by have:=S.out.2.1;rw [<-M,bU];unfold maxLen;omega);clear o M;go_wp2_with fail;have A4:∀W,au (fun x=>x=R.l) w1.drew W->Blk W R.l #[.pointer (some ⟨r.d,0,none⟩),.string R.nm,.slice R.a R.ls.length R.c,.int .i64 (R.sure:Int)] 126:=fun W hW=>(hW.2 R.l rfl).trans A.log.blk;have l0:=fun W (hW:au (fun x=>x=R.l) w1.drew W)=>(A4 W hW).rule;clear f;refine ah false (au (fun x=>x=R.l)) (au.refl _) (fun _ _ _ A J=>au.trans A J) (.step 0 (.step 1 (.step 2 (.step 3 (.step 4 (.step 5 (.step 6 (.step 7 (.step 8 (.step 9 (.step 10 .done))))))))))) krA krA cdA ?_
   repeat refine txA ?_
   refine am rfl rfl rfA (fun K hK=> ?_);go_wp2_with fail;refine (qr w1.drew B r R.nm (A.disk.keep fun _ _=>rfl) A0 t n1 D (bo l) (N.drew) B5.out B0).mono ?_;rintro e w2 ⟨rfl,T,s,O⟩;have j:eZ B w1.drew r R w2 T R:=cj.log O A3;refine hK _ _ ⟨O.turn.size,fun x hx=>by subst hx;exact O.turn.block R.l A.log.blk.lt (A.apart R.l (.inl rfl))⟩ ?_;clear hK K l0 A4
   repeat refine txA ?_
   refine aq ?_;have n:eZ B w r R w2 T R:=(eZ.old h (G.drew)).trans j;have J:=j.at';have B1:=J.log.blk.rule;have A5:B<=w2.heap.size:=Vd A0 O.turn.size;by_cases H:(bw r.p R.nm (bo l)).2=0
   .have HC:=Hd (Du (p:=r.p) (R:=R) HE.out Z.out H);rw [H];have B6:=Hd H;have B7:=Hd s;clear H s A A3 j O N;go_upto_region 10 with fail;have B9:aj w2 a l:=av.turn hl n.turn (B4 (fun e=>by have:=S.out.1;rw [e] at this;simp at this));have C3:=S.out.2.1;have C2:=L.out;have C4:=Z.out;go_wp2_with (at_builtin;refine al rfl _ _ 22 rfl KE rfl (Own.nil w2 w2.heap.size 5 1) rfl B9 (by rw [lmA];omega) (by intro u hu;obtain ⟨y,_,rfl⟩:=VH.1 hu;rfl) mxA oA (VU _) ?_);intro U E w3 A8 P;go_upto_region 11 with fail;have A1:Below w2.heap.size w2 w3:=⟨P.os,P.tape,P.output,P.size,fun q hq=>P.block q hq (by simp [Value.ownBlock])⟩;have A2:Below w3.heap.size w3 (w3.alloc (.cells #[.slice U len E] 22)):=(VW _ _).alloc (VU _) _;have X:Below w2.heap.size w2 (w3.alloc (.cells #[.slice U len E] 22)):=aa A1 A2;have h3:=J.old A1;have CK:=h3.log.blk.rule;clear B1;have CW:B<=(w3.alloc (.cells #[.slice U len E] 22)).heap.size:=Vd A5 X.size;go_wp2_with (refine lZ rfl _ _ 124 rfl tX rfl (J.log.rows.1.old X) rfl (av.new' w3 #[.slice U len E] 22 _ rfl) rfl oA (by exact de _ rfl) mxA oA CW ?_);intro a4 I w4 A9 A6 C0;have B2:∀(C:bI R.a R.c=some R.l),False:=fun e=>by
     obtain ⟨Y,q1,q2⟩:=il e;obtain ⟨_,_,C5,B3⟩:=J.log.rows.1.block_lt q1;exact Blk.ne B3 J.log.blk dcA q2.symm
    have C1:=Hd (xI J A5 X L.out (A8.old A2) A9 A6 (by simpa using C0) oA S.out.2.1);have A7:Blk w4 R.l #[.pointer (some ⟨T.d,0,none⟩),.string R.nm,.slice R.a R.ls.length R.c,.int .i64 (R.sure:Int)] 126:=(J.log.blk.old X).grown A6 B2;have c0:=A7.rule;have D:=A7.free;clear CK;go_upto_region 12 with fail;have c2:(w4.setCell ⟨R.l,2,none⟩ (.slice a4 (R.ls.length+1) I)).cell? ⟨R.l,2,none⟩=some (.slice a4 (R.ls.length+1) I):=World.cell?_setCell_same' w4 _ _ (by rw [c0];rfl);clear c0 D;go_wp2_with fail;go_ret2;obtain ⟨q1,q2,q3,q4⟩:=HC.out;have hw:wrap64 (R.ls.length:Int)=(R.ls.length:Int):=Yk _ (by have:=Z.out;omega);refine ⟨by rw [q1,q2];simp [hw],T,{R with a:=a4,c:=I,vs:=R.vs++ [.slice U len E],ls:=R.ls++ [l]},B7.out.trans q3.symm,q4.symm,rfl,n.trans C1.out⟩
   .have HC:=Hd (vX (p:=r.p) (R:=R) HE.out Z.out H);have B6:=Hd H;have t1:((bw r.p R.nm (bo l)).2==0)=false:=(by simpa using H);have t2:((bw r.p R.nm (bo l)).2 !=0)=true:=(by simpa using H);clear H;go_wp2_with fail;go_ret2;obtain ⟨D,c2,E,I⟩:=HC.out;exact ⟨by rw [D,c2];first|rfl|simp,T,R,s.trans E.symm,I.symm,rfl,n⟩
 .have HC:=Hd (zE (p:=r.p) (R:=R) C);have HE:=Hd C;have t0:(fi len==0)=false:=(by rw [<-L.out];simpa using C);clear C;go_enter func101,ntmps101;go_wp2_with fail;refine F.mono ?_;clear F;rintro e w1 ⟨t,n1,D,rfl,N,M,G⟩;have A:=h.old G;have f:=A.log.blk.rule;clear o;go_wp2_with fail;go_ret2;obtain ⟨D,c2,E,I⟩:=HC.out;exact ⟨by rw [D,c2,L.out];first|rfl|simp,r,R,E.symm,I.symm,rfl,eZ.old h G⟩
theorem Av (w:As) (B:Nat) (r:cz) (R:jo) (h:RDL w B r R) (O:B<=w.heap.size):
  Calls prog 102 #[.pointer (some ⟨R.l,0,none⟩)] w fun e w'=>e= .returned (.int .i64 (et r.p R.nm).2)/\∃r' R',r'.p=(et r.p R.nm).1/\R'.ls=R.ls/\R'.sure=sy r.p R/\eZ B w r R w' r' R':=by
 have L:∀W,au (fun x=>x=R.l) w.drew W->Blk W R.l #[.pointer (some ⟨r.d,0,none⟩),.string R.nm,.slice R.a R.ls.length R.c,.int .i64 (R.sure:Int)] 126:=fun W H=>(H.2 R.l rfl).trans h.log.blk;have P:=fun W (H:au (fun x=>x=R.l) w.drew W)=>(L W H).rule;have S:RDL w.drew B r R:=h.keep fun _ _=>rfl;go_enter func102,ntmps102;go_wp2_with fail;refine ah false (au (fun x=>x=R.l)) (au.refl _) (fun _ _ _ T C=>au.trans T C) (.step 0 (.step 1 (.step 2 (.step 3 (.step 4 (.step 5 (.step 6 (.step 7 (.step 8 (.step 9 .done)))))))))) krA krA cdA ?_
 repeat refine txA ?_
 refine am rfl rfl rfA (fun K M=> ?_);go_wp2_with fail;refine (vo w.drew B r R.nm (h.disk.keep fun _ _=>rfl) O).mono ?_;rintro e w2 ⟨rfl,E,F,G⟩;have I:eZ B w.drew r R w2 E R:=cj.log G S;have J:eZ B w r R w2 E R:=(eZ.old h ((VW _ w).drew)).trans I;refine M _ _ ⟨G.turn.size,fun x hx=>by subst hx;exact G.turn.block R.l h.log.blk.lt (h.apart R.l (.inl rfl))⟩ ?_;clear M K P L
 repeat refine txA ?_
 refine aq ?_;have C:=I.at';have U:=C.log.blk.rule;have V:=C.log.blk.free;by_cases A:(et r.p R.nm).2=0
 .have HR:=Hd F;have N:=Hd (Cw C R.ls.length rfl);have D:=Hd A;rw [A];clear F A;go_wp2_with fail;go_ret;exact ⟨by rw [D.out];first|rfl|simp,E,{R with sure:=R.ls.length},HR.out,rfl,by unfold sy;rw [Vz D.out],J.trans N.out⟩
 .have t1:((et r.p R.nm).2==0)=false:=(by simpa using A);have D:=Hd A;clear A;go_wp2_with fail;go_ret;exact ⟨rfl,E,R,F,rfl,by unfold sy;rw [VV D.out],J⟩
def EL (B:Nat) (w:As) (r:cz) (nm:bB) (e:Ending) (w':As):Prop:=
 ∃r',r'.p=gN r.p nm/\cj B w r w' r'/\
  ((en r.p nm≠0/\e= .returned (.tuple #[.pointer none,.int .i64 0,.int .i64 (en r.p nm)]))\/
   (en r.p nm=0/\∃R,e= .returned (.tuple #[.pointer (some ⟨R.l,0,none⟩),.int .i64 (iG r.p nm:Int),.int .i64 0])/\RDL w' B r' R/\R.nm=nm/\R.ls=(dt r.p nm).1/\R.sure=R.ls.length/\∀x,fW R x->w.heap.size<=x))
theorem JQ {p q:aN} (h:IG p q) (D:q.fs.length<=1):p=q:=by
 obtain ⟨A,E,F,G,H⟩:=h;have e:p.fs=q.fs:=by
  match C:q.fs,D with
  | [],_=>rw [C] at A;exact A.eq_nil
  | [x],_=>rw [C] at A;exact List.perm_singleton.1 A
 cases p;cases q;simp_all
def np (p:aN) (nm:bB):Prop:=∀f∈p.fs,f.name=nm
theorem Gc {p:aN} {nm:bB} (h:np p nm) (C:(bN p nm).2=4):(fd p nm).1.fs.length<=1:=by
 have A:p.fs=[]:=by
  unfold bN at C;split at C
  .simp at C
  .cases hf:fF p nm with
   |some f=>rw [hf] at C;simp at C
   |none=>
    unfold fF at hf;rw [XE] at hf
    match D:p.fs with
    | []=>rfl
    |f::l=>
     have:=hf f (by rw [D];simp);have:=h f (by rw [D];simp);simp_all
 unfold fd;split
 .simp [A]
 .split
  .simp [A]
  .split
   .simp [A]
   .split
    .simp [A]
    .simp [A]
theorem Fz {w0 w:As} {B:Nat} {r:cz} {nm:bB} (h:cS w B r) (L:w0.heap.size<=w.heap.size) (D:B<=w0.heap.size) (M:nm.size<=maxLen) {a:Lt} {n c:Nat} {vs:AT} {ls:List Le} (E:aU w w0.heap.size 22 5 a n c vs ls) (H:ls.length<=4096) (I:∀x∈ls,x.length<=65536)
  (J:∀x,((∃A,a=some A/\x=A.block)\/∃A m C,Value.slice (some A) m C∈vs/\x=A.block)->¬eJ r x):
  RDL (w.alloc (.cells #[.pointer (some ⟨r.d,0,none⟩),.string nm,.slice a n c,.int .i64 (n:Int)] 126)) B r ⟨w.heap.size,nm,a,c,vs,ls,ls.length⟩:=by
 have N:=E.length;subst N;have F:Below w.heap.size w (w.alloc (.cells #[.pointer (some ⟨r.d,0,none⟩),.string nm,.slice a ls.length c,.int .i64 (ls.length:Int)] 126)):=(VW _ _).alloc (VU _) _;refine ⟨h.old F,⟨Vd D L,Blk.new _ _ _,(E.lower D).old F,H,I,M,VU _⟩,fun x hx G=> ?_⟩;rcases hx with rfl|hx
 .have:=(h.lt G).2;exact Nat.lt_irrefl _ this
 .exact J x hx G
theorem sh (w:As) (B:Nat) (r:cz) (nm:bB) (h:cS w B r) (hB:B<=w.heap.size) (hs:nm.size<=maxLen) (B5:np r.p nm):
  Calls prog 69 #[.pointer (some ⟨r.d,0,none⟩),.string nm] w fun e w'=>EL B w r nm e w':=by
 have A8:=Hd (jM h.ok nm);go_enter func69,ntmps69;go_wp2_with fail;refine (qk w B r nm h).mono ?_;rintro e w1 ⟨a,n,c,rfl,hn,Y,U⟩;have j:=Hd hn;have h1:=h.old U;have A2:cj B w r w1 r:=⟨aJ.of_below U,h1,fun _ hx=> .inl hx,rfl⟩;have A9:B<=w1.heap.size:=Vd hB U.size;clear hn;go_upto_if 17 with fail;go_cut [6] from 17 (fun v wx=>v= .int .i64 (cQ r.p nm).2/\∃E,E.p=(cQ r.p nm).1/\cj B w r wx E/\(∀x,eJ E x->eJ r x\/w1.heap.size<=x)/\wx.heap.size≥w1.heap.size/\Own wx w.heap.size 5 1 a n c ((bN r.p nm).1.map bv))
 case first=>
  by_cases J:(bN r.p nm).2=4
  .have t0:((bN r.p nm).2==4)=true:=(by simpa using J);have HM:=Hd (show cQ r.p nm=fd r.p nm by unfold cQ;rw [Vz J]);have B6:=Hd (Gc B5 J);clear J;go_wp2_with fail;refine (CD w1 B r nm h1 A9).mono ?_;rintro e w2 ⟨rfl,E,B7,G,-⟩;have l:=JQ B7 B6.out;go_wp2_with fail;go_meet
   case rel=>
    rw [HM.out];exact ⟨rfl,E,l,A2.trans G,G.foot',G.turn.size,Y.keepAt fun x hx=>G.turn.block x.block (Y.block_lt hx).2.1 (fun F=>by
     have g1:=(Y.block_lt hx).1;have g2:=(h.lt F).2;omega)⟩
  .have t0:((bN r.p nm).2==4)=false:=(by simpa using J);have HM:=Hd (show cQ r.p nm=(r.p,(bN r.p nm).2) by unfold cQ;rw [VV J]);clear J;go_wp2_with fail;go_meet
   case rel=>
    rw [HM.out];exact ⟨rfl,r,rfl,A2,fun x hx=> .inl hx,VU _,Y⟩
 case rest=>
  obtain ⟨L,rfl⟩:∃L:World,L=wc:=⟨_,rfl⟩;obtain ⟨rfl,E,l,G,B9,o,A1⟩:=hcut;have h2:=G.at';have A3:=Hd l;have CK:=G.d;have BY:B<=L.heap.size:=Vd A9 o;clear l Y h1 A2;by_cases P:(cQ r.p nm).2=0
  .have q:=Hd P;rw [P];clear P;have s:=vv a n c (bN r.p nm).1 L A1.row j.out (by have:=A8.out;have:=j.out;omega) A1.le;rw [show scan ju (bN r.p nm).1=dt r.p nm from rfl] at s;obtain ⟨bad,t⟩:=At ((dt r.p nm).2.length);have C6:bad<=n:=(by have:=qf ju (bN r.p nm).1;have:=j.out;rw [t];show (scan ju (bN r.p nm).1).2.length<=n;omega);rw [<-t] at s;have A4:=Hd t;clear t;go_step;go_wp2_with fail;refine s.mono ?_;clear s;rintro e w3 ⟨a2,n2,c2,vs,rfl,A,Z⟩;have C7:n2<=4096:=(by have h9:(dt r.p nm).1.length<=ju:=nI ju _;have:=A.length;have:=jD;omega);have C8:n<=1048576:=(by have:=A8.out;have:=j.out;omega);have h3:=h2.old Z;have B0:B<=w3.heap.size:=Vd BY Z.size;have b:∀x,eJ E x->x<L.heap.size:=fun x hx=>(h2.lt hx).2;have y:cj B w r w3 E:=G.trans ⟨aJ.of_below Z,h3,fun _ hx=> .inl hx,rfl⟩;have C5:=Z.size;clear A1 G;go_upto_if 30 with fail;go_cut [] from 30 (fun wx=>(br r.p nm).2=0/\∃O,O.p=(br r.p nm).1/\cj B w r wx O/\(∀x,eJ O x->x<L.heap.size\/w3.heap.size<=x)/\w3.heap.size<=wx.heap.size/\aU wx L.heap.size 22 5 a2 n2 c2 vs (dt r.p nm).1)
   case first=>
    by_cases T:bad=0
    .have HC:=Hd (show br r.p nm=((cQ r.p nm).1,0) by unfold br;rw [<-A4.out,Vz T]);have t2:¬0<bad:=oA;have HB:=Hd T;clear T;go_wp2_with fail;go_meet
     case rel=>
      rw [HC.out];exact ⟨rfl,E,A3.out,y,fun x hx=> .inl (b x hx),VU _,A⟩
    .have HC:=Hd (show br r.p nm=jF (cQ r.p nm).1 nm (((bN r.p nm).1.length-bad:Nat):Int) by unfold br;rw [<-A4.out,VV T]);have t2:0<bad:=oA;have HB:=Hd T;clear T;have hc:=tS w3 B E nm ((n:Int)-(bad:Int)) h3 B0;have CW:=Hd (show jF E.p nm ((n:Int)-(bad:Int))=br r.p nm by
      rw [HC.out,A3.out,j.out,show ((n-bad:Nat):Int)=(n:Int)-(bad:Int) from by omega])
     rw [CW.out,CK] at hc;go_wp2_with fail;refine hc.mono ?_;clear hc;rintro e w4 ⟨rfl,O,V,D⟩;by_cases H:(br r.p nm).2=0
     .have A5:=Hd H;rw [H];clear H;go_wp2_with fail;go_meet
      case rel=>
       refine ⟨A5.out,O,V,y.trans D,fun x hx=> ?_,D.turn.size,?_⟩
       .rcases D.foot' x hx with g|g
        .exact .inl (b x g)
        .exact .inr g
       .refine A.keep (fun x hx=>D.turn.block x.block (A.1.block_lt hx).2.1 fun F=> ?_) (fun S m C X=>D.turn.block S.block (A.inner X).2.1 fun F=> ?_)
        .have g1:=b _ F;have g2:=(A.1.block_lt hx).1;omega
        .have g1:=b _ F;have g2:=(A.inner X).1;omega
     .have HE:=Hd (qx q.out H);have t3:((br r.p nm).2 !=0)=true:=(by simpa using H);have A5:=Hd H;clear H;go_wp2_with fail;go_ret3;refine ⟨O,V.trans HE.out.2.symm,y.trans D,.inl ⟨by rw [HE.out.1];exact A5.out,?_⟩⟩;rw [HE.out.1]
      first|rfl|simp
   case rest=>
    obtain ⟨H,O,V,D,A0,B1,W⟩:=hcut;have J:=D.at';have f:=Hd (nO q.out H);have C9:=Hd V;have C0:B<=wc.heap.size:=Vd B0 B1;have I:=vo wc B O nm J C0;rw [V,show et (br r.p nm).1 nm=eo r.p nm from rfl,D.d] at I;clear V H;go_step;go_wp2_with fail;refine I.mono ?_;clear I;rintro e w5 ⟨rfl,r3,A6,M⟩;have h5:=M.at';by_cases I:(eo r.p nm).2=0
    .have HS:=Hd (show en r.p nm=0 by rw [f.out.1];exact I);rw [I];have B2:r3.d=r.d:=M.d.trans D.d;have B3:aU w5 L.heap.size 22 5 a2 n2 c2 vs (dt r.p nm).1:=by
      refine W.keep (fun x hx=>M.turn.block x.block (W.1.block_lt hx).2.1 fun F=> ?_) (fun S m C X=>M.turn.block S.block (W.inner X).2.1 fun F=> ?_)
      .rcases A0 _ F with g|g
       .have:=(W.1.block_lt hx).1;omega
       .have:=(A.1.block_lt hx).2.1;omega
      .rcases A0 _ F with g|g
       .have:=(W.inner X).1;omega
       .have:=(A.inner X).2.1;omega
     have B4:L.heap.size<=w5.heap.size:=Vd Z.size (Vd B1 M.turn.size);have A7:=Hd (Fz h5 B4 BY hs B3 (by have:=A.length;omega) (vk ju _) (fun x hx F=>by
      have g0:L.heap.size<=x/\x<w3.heap.size:=by
       rcases hx with ⟨S,N,rfl⟩|⟨S,m,C,N,rfl⟩
       .exact ⟨(A.1.block_lt N).1,(A.1.block_lt N).2.1⟩
       .exact ⟨(A.inner N).1,(A.inner N).2.1⟩
      rcases M.foot' x F with g|g
      .rcases A0 x g with g|g<;>omega
      .omega))
     rw [B2] at A7;have C1:=Hd (D.trans M);have C2:=Hd (And.intro (A.length) (fun x (hx:fW ⟨w5.heap.size,nm,a2,c2,vs,(dt r.p nm).1,(dt r.p nm).1.length⟩ x)=>show w.heap.size<=x by
      rcases hx with rfl|⟨S,N,rfl⟩|⟨S,m,C,N,rfl⟩
      .exact Vd U.size (Vd o B4)
      .exact Vd U.size (Vd o (A.1.block_lt N).1)
      .exact Vd U.size (Vd o (A.inner N).1)))
     have C3:=Hd A6;clear I B3 W A D M h5 J h3 h2 y A6 A0 b B2 B9;go_wp2_with fail;go_ret3;have eN:iG r.p nm=bad:=(by unfold iG;rw [Vz HS.out];exact A4.out.symm);refine ⟨r3,C3.out.trans f.out.2.symm,C1.out.trans ⟨aJ.of_below ((VW _ _).alloc (VU _) _),A7.out.disk,fun _ hx=> .inl hx,rfl⟩,.inr ⟨HS.out,⟨w5.heap.size,nm,a2,c2,vs,(dt r.p nm).1,(dt r.p nm).1.length⟩,?_,A7.out,rfl,rfl,rfl,C2.out.2⟩⟩;rw [eN]
     first|rfl|simp
    .have t3:((eo r.p nm).2 !=0)=true:=(by simpa using I);have C4:=Hd I;clear I;go_wp2_with fail;go_ret3;refine ⟨r3,A6.trans f.out.2.symm,D.trans M,.inl ⟨by rw [f.out.1];exact C4.out,?_⟩⟩;rw [f.out.1]
     first|rfl|simp
  .have HE:=Hd (ub P);have t1:((cQ r.p nm).2 !=0)=true:=(by simpa using P);have q:=Hd P;clear P;go_step;go_wp2_with fail;go_ret3;refine ⟨E,A3.out.trans HE.out.2.symm,G,.inl ⟨by rw [HE.out.1];exact q.out,?_⟩⟩;rw [HE.out.1]
   first|rfl|simp
def dd (p:aN):List bB:=p.fs.map (·.name)
theorem np.of_names {p q:aN} {nm:bB} (h:np p nm) (e:dd q=dd p):np q nm:=fun f C=>by
 have A:f.name∈dd q:=VH.2 ⟨f,C,rfl⟩;rw [e] at A;obtain ⟨g,D,E⟩:=VH.1 A;rw [<-E];exact h g D
theorem xg (p:aN) (nm:bB) (g:dJ->dJ) (A:∀f,(g f).name=f.name):dd (kF p nm g)=dd p:=by
 unfold dd kF BV;rw [We];refine WQ fun f _=> ?_;simp only [Function.comp];split
 .exact A f
 .rfl
theorem wF (p:aN) (plan:ef):dd (lV p plan)=dd p:=by
 unfold dd lV;rw [We];rfl
theorem uv (p:aN):dd (dL p).1=dd p:=by
 unfold dL;split
 .rfl
 .split
  .rfl
  .exact wF p p.plan
theorem xP (p:aN) (nm:bB) (g:dJ->aN×Int) (A:∀f,dd (g f).1=dd p):dd (mp p nm g).1=dd p:=by
 unfold mp;split
 .rfl
 .split
  .rfl
  .exact A _
theorem sR (p:aN) (nm:bB) (b:Le):dd (bw p nm b).1=dd p:=xP p nm _ fun f=>by
 split
 .rfl
 .rw [uv];exact xg p nm _ fun _=>rfl
theorem yR (p:aN) (nm:bB):dd (et p nm).1=dd p:=xP p nm _ fun f=>by
 split
 .exact (xg (dL p).1 nm (fun f=>{f with sure:=f.b.length}) fun _=>rfl).trans (uv p)
 .exact uv p
theorem yj (p:aN) (nm:bB) (n:Int):dd (jF p nm n).1=dd p:=xP p nm _ fun f=>by
 split
 .rfl
 .exact xg p nm _ fun _=>rfl
theorem wG (p:aN) (plan:ef):dd (dz p plan).1=dd p:=by
 unfold dz;split
 .rfl
 .exact wF p plan
theorem Da (p:aN):dd (lf p).1=dd p:=by
 unfold lf;split<;>rfl
theorem KQ (p:aN) (n:Int) (plan:ef):dd (rO p n plan).1=dd p:=by
 unfold rO;split
 .rfl
 .split<;>rfl
theorem Dn {p:aN} {nm:bB} (h:np p nm):np (fd p nm).1 nm:=by
 unfold fd;split
 .exact h
 .split
  .exact h
  .split
   .exact h
   .split
    .exact h
    .intro f A;rcases Ve.1 A with A|A
     .exact h f A
     .rw [VS.1 A]
theorem qw {p:aN} {nm:bB} (h:np p nm):np (gN p nm) nm:=by
 have A:np (cQ p nm).1 nm:=by
  unfold cQ;split
  .exact Dn h
  .exact h
 have C:np (br p nm).1 nm:=by
  unfold br;split
  .exact A
  .exact A.of_names (yj _ _ _)
 have D:np (eo p nm).1 nm:=C.of_names (yR _ _);unfold gN;split
 .exact A
 .split
  .exact C
  .exact D
end
section
open Go.RowKit
structure du where
 v:Nat
 ma:Lt
 mc:Nat
 m:Le
 R:jo
 da:Lt
 dc:Nat
 ds:List (ao×aY)
 down:Bool
def du.l (V:du):List ao:=aF V.ds
def dx (V:du):AS:= #[.pointer (some ⟨V.R.l,0,none⟩),.slice V.ma V.m.length V.mc,.slice V.da V.ds.length V.dc,.bool V.down]
def kB (V:du) (x:Nat):Prop:=x=V.v\/atB V.ma x\/atB V.da x\/∃y∈V.ds,qL y.2 x
structure GS (w:As) (B d:Nat) (V:du):Prop where
 ge:B<=V.v
 blk:Blk w V.v (dx V) 58
 master:Own w B 5 1 V.ma V.m.length V.mc (V.m.map bv)
 mz:V.m.length<=1000000
 log:lq w B d V.R
 deeds:Own w B 40 15 V.da V.ds.length V.dc (eC V.ds)
 each:∀x∈V.ds,dp w x.1 x.2
 cnt:V.ds.length<=V.R.ls.length
 sepi:∀y∈V.ds,∀b,qL y.2 b->b≠V.v/\¬atB V.da b/\¬atB V.ma b
structure RVL (w:As) (B:Nat) (r:cz) (V:du):Prop where
 disk:cS w B r
 vault:GS w B r.d V
 sepl:∀x,kB V x->¬fW V.R x
 sepd:∀x,fW V.R x\/kB V x->¬eJ r x
theorem RVL.rdl {w:As} {B:Nat} {r:cz} {V:du} (h:RVL w B r V):RDL w B r V.R:=⟨h.disk,h.vault.log,fun x hx=>h.sepd x (.inl hx)⟩
theorem bW.lt {w:As} {B:Nat} {a:Lt} {c:Nat} {ds:List (ao×aY)} (h:bW w B a c ds) {x:Nat} (hx:atB a x\/∃y∈ds,qL y.2 x):B<=x/\x<w.heap.size:=by
 rcases hx with ⟨E,A,rfl⟩|⟨y,C,D⟩
 .exact ⟨(h.row.block_lt A).1,(h.row.block_lt A).2.1⟩
 .exact ⟨((h.each y C).innerLt D).1,((h.each y C).innerLt D).2.1⟩
theorem vn {w0 W A:As} {B S E:Nat} {r:cz} {R:jo} {m:Le} {D:Lt} {F:Nat} {da:Lt} {dc:Nat} {ds:List (ao×aY)} (h:RDL W B r R) (n:B<=w0.heap.size) (o:w0.heap.size<=S)
  (T:∀x,eJ r x\/fW R x->x<S\/E<=x) (C:bW W S da dc ds) (J:∀x,(atB da x\/∃y∈ds,qL y.2 x)->x<E) (A0:E<=W.heap.size) (A1:S<=W.heap.size) (p:∀x,fW R x->w0.heap.size<=x)
  (M:Own A W.heap.size 5 1 D m.length F (m.map bv)) (L:Below W.heap.size W A) (f:m.length<=1000000) (c:ds.length<=R.ls.length):
  RVL (A.alloc (.cells (dx ⟨A.heap.size,D,F,m,R,da,dc,ds,false⟩) 58)) B r ⟨A.heap.size,D,F,m,R,da,dc,ds,false⟩/\∀x,fW R x\/kB ⟨A.heap.size,D,F,m,R,da,dc,ds,false⟩ x->w0.heap.size<=x:=by
 have H:Below W.heap.size W (A.alloc (.cells (dx ⟨A.heap.size,D,F,m,R,da,dc,ds,false⟩) 58)):=L.alloc L.size _;have j:=L.size;have l:B<=S:=Vd n o;have I:∀x,kB ⟨A.heap.size,D,F,m,R,da,dc,ds,false⟩ x->W.heap.size<=x\/(S<=x/\x<E):=fun x hx=>by
  rcases hx with rfl|⟨U,G,rfl⟩|hx|hx
  .exact .inl j
  .exact .inl (M.block_lt G).1
  .exact .inr ⟨(C.lt (.inl hx)).1,J x (.inl hx)⟩
  .exact .inr ⟨(C.lt (.inr hx)).1,J x (.inr hx)⟩
 refine ⟨⟨h.disk.old H,⟨by show B<=A.heap.size;omega,Blk.new _ _ _,(M.lower oA).alloc _,f,h.log.old H,(C.row.lower l).old H,fun x hx=>((C.each x hx).at).old H,c,fun y V b X=> ?_⟩,fun x hx Y=> ?_,fun x hx N=> ?_⟩,fun x hx=> ?_⟩
 .have hbE:=J b (.inr ⟨y,V,X⟩);refine ⟨by show b≠A.heap.size;omega,fun ⟨U,G,e⟩=> ?_,fun ⟨U,G,e⟩=> ?_⟩
  .obtain ⟨_,_,A2,t,O,q⟩:=(C.each y V).innerLt X;obtain ⟨_,_,s,P⟩:=C.row.block_lt G;exact Blk.ne O P (by rcases q with rfl|rfl<;>decide) e
  .have:=(M.block_lt G).1;omega
 .have O:=(h.lt (.inr Y)).2;have P:=T x (.inr Y);have Z:=I x hx;omega
 .rcases hx with hx|hx
  .exact h.apart x hx N
  .have O:=(h.lt (.inl N)).2;have P:=T x (.inl N);have Z:=I x hx;omega
 .rcases hx with hx|hx
  .exact p x hx
  .have Z:=I x hx;omega
theorem bW.keepB {w w':As} {B:Nat} {a:Lt} {c:Nat} {ds:List (ao×aY)} (h:bW w B a c ds) (A:∀x,(atB a x\/∃y∈ds,qL y.2 x)->w'.heap[x]? =w.heap[x]?):bW w' B a c ds:=
 ⟨h.row.keepAt fun x hx=>A _ (.inl ⟨x,hx,rfl⟩),fun x hx=>(h.each x hx).keepB fun y C=>A y (.inr ⟨x,hx,C⟩)⟩
def iC (B:Nat) (w:As) (r:cz) (nm:bB) (m:Le) (e:Ending) (w':As):Prop:=
 ∃r',r'.p=rD r.p nm m/\cj B w r w' r'/\
  ((kA r.p nm m≠0/\e= .returned (.tuple #[.pointer none,.int .i64 0,.int .i64 (kA r.p nm m)]))\/
   (kA r.p nm m=0/\∃V,e= .returned (.tuple #[.pointer (some ⟨V.v,0,none⟩),.int .i64 (pQ r.p nm m:Int),.int .i64 0])/\RVL w' B r' V/\V.m=m/\V.l=oJ r.p nm m/\V.R.ls=rC r.p nm m/\V.R.nm=nm/\V.down=false/\∀x,fW V.R x\/kB V x->w.heap.size<=x))
theorem zM {p:aN} {nm:bB} (n:Int) (h:np p nm):np (jF p nm n).1 nm:=np.of_names h (yj p nm n)
theorem rX (w:As) (B:Nat) (r:cz) (nm:bB) (h:cS w B r) (hB:B<=w.heap.size) (hs:nm.size<=maxLen) (D6:np r.p nm) (ma:Lt) (mn mc:Nat) (m:Le) (EQ:∀W,aJ (eJ r) w W->aj W ma m) (C5:m.length=mn) (C6:mn<=1000000):
  Calls prog 19 #[.pointer (some ⟨r.d,0,none⟩),.string nm,.slice ma mn mc] w (iC B w r nm m):=by
 obtain ⟨S,hS⟩:=At (iC B w r nm m);rw [<-hS];have HS:=Hd hS;clear hS;have C:=sh w B r nm h hB hs D6;go_enter func19,ntmps19;go_wp2_with fail;refine C.mono ?_;clear C;rintro e w1 ⟨t,j,L,B3⟩;rcases B3 with ⟨O,rfl⟩|⟨O,R,rfl,H,F7,E0,HA,hq⟩
 .have D:iC B w r nm m (.returned (.tuple #[.pointer none,.int .i64 0,.int .i64 (en r.p nm)])) w1:=by
   have F:kA r.p nm m=en r.p nm:=(by unfold kA;rw [Vz O]);refine ⟨t,by rw [j];unfold rD;rw [Vz O],L,.inl ⟨by rw [F];exact O,by rw [F]⟩⟩
  have J:=Hd D;have te:(en r.p nm !=0)=true:=(by simpa using O);clear D O;go_wp2_with fail;rw [HS.out];go_ret3;exact J.out
 have te:(en r.p nm !=0)=false:=(by simp [O]);have C1:=EQ w1 L.turn;have cs:=xA w1 ma mn mc m R.a R.ls.length R.c R.ls C1 C5 C6 H.log.rows.pieces rfl H.log.cnt H.log.lens;have E1:=H.log.blk.rule;have Z:=Hd C5;have G:=Hd E0;clear C5;obtain ⟨N,hN⟩:∃N,R.ls.length=N:=⟨_,rfl⟩;rw [hN] at E1 cs;have b:=Hd hN;have F8:N<=4096:=(by rw [<-hN];exact H.log.cnt);have I:=Hd O;clear O hN E0;go_wp2_with fail;refine cs.mono ?_;clear cs;rintro e w2 ⟨P,c2,ds,rfl,C7,C8,A0⟩;have A4:=H.old A0;have E4:=A4.log.blk.rule;rw [b.out] at E4;have F9:ds.length<=N:=by
  have f:=(yX m R.ls []).2;rw [<-C7,aF,lmA,Xz,VN,b.out] at f;exact f
 have C9:aF ds=oJ r.p nm m:=(by rw [C7,G.out];rfl);have B5:(oJ r.p nm m).length=ds.length:=(by rw [<-C9,aF,lmA]);have DO:(aA (R.ls.take ds.length)).length<=4096*65544:=Vd (lz R.ls H.log.lens _) (Ws _ oA);have B6:(aA (R.ls.take ds.length)).length=jx r.p nm m:=(by unfold jx;rw [B5,G.out]);obtain ⟨K,hK⟩:∃K,ds.length=K:=⟨_,rfl⟩;rw [hK] at F9 DO B6 B5⊢;rw [B6] at DO⊢;have HK:=Hd hK;have E5:=Hd C9;have B7:=Hd B5;have A5:=Hd B6;have D0:=L.turn.size;have B9:∀x,(atB P x\/∃y∈ds,qL y.2 x)->w1.heap.size<=x/\x<w2.heap.size:=fun x hx=>C8.lt hx;have CK:∀x,eJ t x\/fW R x->x<w1.heap.size:=fun x hx=>(H.lt hx).2;have F0:=H.log.lens;clear E1 hK C7 C9 B5 B6 H;obtain ⟨A,D1⟩:∃A,jx r.p nm m=A:=⟨_,rfl⟩;rw [D1] at DO A5⊢;have E6:=Hd D1;clear D1;by_cases D5:K=N
 .subst D5;have t0:decide ((K:Int)<(K:Int))=false:=skA;have C2:aj w2 ma m:=C1.below A0;have n:eO r.p nm m=true:=(by unfold eO;exact VK (by rw [B7.out,<-G.out,b.out]));have D:∀W V,RVL W B t V/\(∀x,fW V.R x\/kB V x->w.heap.size<=x)->Below w2.heap.size w2 W->V.m=m->V.ds=ds->V.R=R->V.down=false->iC B w r nm m (.returned (.tuple #[.pointer (some ⟨V.v,0,none⟩),.int .i64 (iG r.p nm:Int),.int .i64 0])) W:=by
   intro W V hV D2 F e2 e3 e4;have q1:kA r.p nm m=0:=(by unfold kA;rw [VV (by rw [I.out];decide),Vz n]);have q2:rD r.p nm m=gN r.p nm:=(by unfold rD;rw [VV (by rw [I.out];decide),Vz n]);have q3:pQ r.p nm m=iG r.p nm:=(by unfold pQ;rw [Vz n]);refine ⟨t,by rw [j,q2],L.trans (cj.old L.at' (aa A0 D2)),.inr ⟨q1,V,by rw [q3],hV.1,F,?_,?_,by rw [e3];exact F7,e4,hV.2⟩⟩
   .unfold du.l;rw [e2];exact E5.out
   .rw [e3,G.out];unfold rC;rw [B7.out,<-G.out,VZ (by rw [b.out];exact VU _)]
  have J:=Hd D;clear D n;go_wp2_with (at_builtin;refine al rfl _ _ 22 rfl dU rfl (Own.nil w2 w2.heap.size 5 1) rfl C2 (by rw [lmA,Z.out,Vr]) (cV _) mxA oA (VU _) ?_);intro T U X A6 A7;have o:Below w2.heap.size w2 X:=(Own.nil w2 w2.heap.size 5 1).grown (VW _ _) (VU _) A7 (VU _);have D3:Own X w2.heap.size 5 1 T m.length U (m.map bv):=(by rw [Z.out];simpa using A6);have A8:=vn (w0:=w) A4 hB D0 (fun x hx=> .inl (CK x hx)) C8 (fun x hx=>(B9 x hx).2) (VU _) A0.size hq D3 o (by rw [Z.out];exact C6) (by rw [HK.out,b.out];exact VU _);clear A6 A7;go_wp2_with fail;rw [HS.out];go_ret3;rw [show dx ⟨X.heap.size,T,U,m,R,P,c2,ds,false⟩= #[.pointer (some ⟨R.l,0,none⟩),.slice T mn U,.slice P K c2,.bool false] by unfold dx;dsimp only;rw [Z.out,HK.out]] at A8;exact J.out _ ⟨X.heap.size,T,U,m,R,P,c2,ds,false⟩ A8 (o.alloc o.size _) rfl rfl rfl rfl
 .have hKN2:K<N:=oA;have t0:decide ((K:Int)<(N:Int))=true:=soA;have n:eO r.p nm m=false:=(by unfold eO;exact VO (by rw [B7.out,<-G.out,b.out];omega));have E7:eh r.p nm m=jF t.p nm (A:Int):=by
   unfold eh;rw [j];have:=A5.out;rw [E6.out]
  have C0:=(nN I.out).1;rw [<-j,<-G.out] at C0;have s:=Hd n;have CW:=Hd E7;have G0:iG r.p nm<=1048576:=by
   unfold iG;split
   .have f:=(qe ju (bN r.p nm).1).1;have h2:=jM h.ok nm;have h3:=WS List.length f;rw [laA] at h3;unfold dt;omega
   .omega
  have G1:A<=(aA R.ls).length/\(aA R.ls).length<=4096*65544:=by
   have f:=lz R.ls F0 N;rw [VZ (by rw [b.out];exact VU _)] at f;refine ⟨?_,Vd f (Ws _ F8)⟩;rw [<-A5.out];have e:aA R.ls=aA (R.ls.take K)++aA (R.ls.drop K):=by
    unfold aA;rw [<-YJ,<-VF,WP]
   rw [e,laA];exact Nat.le_add_right _ _
  have C:=qk w2 B t nm A4.disk;rw [C0,L.d] at C;dsimp only at C;clear C0 n E7 D5;obtain ⟨HB,C3⟩:∃x,(aA R.ls).length=x:=⟨_,rfl⟩;obtain ⟨ON,D4⟩:∃x,iG r.p nm=x:=⟨_,rfl⟩;rw [C3] at G1 C;rw [D4] at G0⊢;have F3:=Hd C3;have G2:=Hd D4;clear C3 D4;go_wp2_with fail;refine C.mono ?_;clear C;rintro e w3 ⟨a3,n3,c3,rfl,E8,-,A9⟩;have G3:=A4.old A9;have D7:=aa A0 A9;clear A4 E4;have C:=tS w3 B t nm (A:Int) G3.disk (Vd hB (Vd D0 D7.size));rw [<-CW.out,L.d] at C;have i1:IntKind.i64.wrap ((n3:Int)-(A:Int))=((n3-A:Nat):Int):=(by rw [VR];omega);have i2:IntKind.i64.wrap ((ON:Int)+((n3-A:Nat):Int))=((ON+(n3-A):Nat):Int):=(by rw [VR];omega);have G4:=Hd E8;clear E8;go_wp2_with fail;refine C.mono ?_;clear C;rintro e w4 ⟨rfl,r2,BY,A1⟩;have A3:cj B w r w4 r2:=(L.trans (cj.old L.at' D7)).trans A1;by_cases M:(eh r.p nm m).2=0;rotate_left 1
  .have D:iC B w r nm m (.returned (.tuple #[.pointer none,.int .i64 0,.int .i64 (eh r.p nm m).2])) w4:=by
    have F:kA r.p nm m=(eh r.p nm m).2:=(by unfold kA;rw [VV (by rw [I.out];decide),s.out,VV dcA,Vz M]);refine ⟨r2,by rw [BY];unfold rD;rw [VV (by rw [I.out];decide),s.out,VV dcA,Vz M],A3,.inl ⟨by rw [F];exact M,by rw [F]⟩⟩
   have J:=Hd D;have HC:((eh r.p nm m).2==0)=false:=(by simpa using M);have G5:((eh r.p nm m).2 !=0)=true:=(by simpa using M);clear D M BY;generalize (eh r.p nm m).2=E2 at*;go_wp2_with fail;rw [HS.out];go_ret3;exact J.out
  have B0:=Hd M;rw [M];clear M;have F1:np r2.p nm:=(by rw [BY,CW.out,j];exact zM _ (qw D6));have C:=sh w4 B r2 nm A3.at' (Vd hB A3.turn.size) hs F1;rw [A3.d] at C;go_wp2_with fail;refine C.mono ?_;clear C;rintro e E ⟨r3,B1,B2,B3⟩;have B4:=A3.trans B2;rw [BY] at B1 B3;rcases B3 with ⟨A2,rfl⟩|⟨A2,Y,rfl,F2,F4,D8,G9,E9⟩
  .have D:iC B w r nm m (.returned (.tuple #[.pointer none,.int .i64 0,.int .i64 (en (eh r.p nm m).1 nm)])) E:=by
    have F:kA r.p nm m=en (eh r.p nm m).1 nm:=(by unfold kA;rw [VV (by rw [I.out];decide),s.out,VV dcA,VV (by rw [B0.out];decide)]);refine ⟨r3,by rw [B1];unfold rD;rw [VV (by rw [I.out];decide),s.out,VV dcA,VV (by rw [B0.out];decide)],B4,.inl ⟨by rw [F];exact A2,by rw [F]⟩⟩
   have J:=Hd D;have G5:(en (eh r.p nm m).1 nm !=0)=true:=(by simpa using A2);clear D A2 B1;generalize en (eh r.p nm m).1 nm=E3 at*;go_wp2_with fail;rw [HS.out];go_ret3;exact J.out
  have C4:Y.ls=R.ls.take K:=by
   have:=sr I.out K (by
    have e:=B0.out;rw [CW.out,j,<-A5.out,G.out] at e;exact e)
   rw [D8,CW.out,j,<-A5.out,G.out,this]
  have D9:=C8.old A9;have EE:bW w4 w1.heap.size P c2 ds:=D9.keepB fun x hx=>A1.turn.block x (D9.lt hx).2 fun hf=>by
   have:=CK x (.inl hf);have:=(B9 x hx).1;omega
  have F5:bW E w1.heap.size P c2 ds:=EE.keepB fun x hx=>B2.turn.block x (EE.lt hx).2 fun hf=>by
   have f:=(B9 x hx);have h2:=A9.size;rcases A1.foot' x hf with q|q
   .have:=CK x (.inl q);omega
   .omega
  have z2:=A0.size;have z3:=A9.size;have z4:=A1.turn.size;have z5:=B2.turn.size;have G6:∀x,eJ r3 x\/fW Y x->x<w1.heap.size\/w2.heap.size<=x:=fun x hx=>by
   rcases hx with hx|hx
   .rcases B2.foot' x hx with q|q
    .rcases A1.foot' x q with q|q
     .exact .inl (CK x (.inl q))
     .exact .inr oA
    .exact .inr oA
   .have:=E9 x hx;exact .inr oA
  have C2:aj E ma m:=EQ E B4.turn;have F6:Y.nm=nm:=F4;have D:∀W V,RVL W B r3 V/\(∀x,fW V.R x\/kB V x->w.heap.size<=x)->Below E.heap.size E W->V.m=m->V.ds=ds->V.R=Y->V.down=false->iC B w r nm m (.returned (.tuple #[.pointer (some ⟨V.v,0,none⟩),.int .i64 ((ON+(n3-A):Nat):Int),.int .i64 0])) W:=by
   intro W V hV D2 F e2 e3 e4;have q1:kA r.p nm m=0:=(by unfold kA;rw [VV (by rw [I.out];decide),s.out,VV dcA,VV (by rw [B0.out];decide)];exact A2);have q2:rD r.p nm m=gN (eh r.p nm m).1 nm:=(by unfold rD;rw [VV (by rw [I.out];decide),s.out,VV dcA,VV (by rw [B0.out];decide)]);have q3:pQ r.p nm m=ON+(n3-A):=(by unfold pQ;rw [s.out,VV dcA,G2.out,E6.out,<-G.out,F3.out,G4.out]);refine ⟨r3,by rw [B1,q2],B4.trans (cj.old B4.at' D2),.inr ⟨q1,V,by rw [q3],hV.1,F,?_,?_,by rw [e3];exact F6,e4,hV.2⟩⟩
   .unfold du.l;rw [e2];exact E5.out
   .rw [e3,C4];unfold rC;rw [B7.out,<-G.out]
  have J:=Hd D;have G7:=Hd E9;clear D hq C1 B1 B2 A1 A2 D8 BY;have hq:∀x,fW Y x->w.heap.size<=x:=fun x hx=>(by have:=G7.out x hx;omega);have G8:=Hd (show Y.ls.length=K by rw [C4,ltA,b.out];omega);clear C4;go_wp2_with (at_builtin;refine al rfl _ _ 22 rfl dU rfl (Own.nil E E.heap.size 5 1) rfl C2 (by rw [lmA,Z.out,Vr]) (cV _) mxA oA (VU _) ?_);intro T U X A6 A7;have o:Below E.heap.size E X:=(Own.nil E E.heap.size 5 1).grown (VW _ _) (VU _) A7 (VU _);have D3:Own X E.heap.size 5 1 T m.length U (m.map bv):=(by rw [Z.out];simpa using A6);have A8:=vn (w0:=w) F2 hB D0 G6 F5 (fun x hx=>(B9 x hx).2) oA oA hq D3 o (by rw [Z.out];exact C6) (by rw [HK.out,G8.out];exact VU _);clear A6 A7;go_wp2_with fail;rw [HS.out];go_ret3;rw [show dx ⟨X.heap.size,T,U,m,Y,P,c2,ds,false⟩= #[.pointer (some ⟨Y.l,0,none⟩),.slice T mn U,.slice P K c2,.bool false] by unfold dx;dsimp only;rw [Z.out,HK.out]] at A8;exact J.out _ ⟨X.heap.size,T,U,m,Y,P,c2,ds,false⟩ A8 (o.alloc o.size _) rfl rfl rfl rfl
end
end Go.Proofs.YtioigihakjlopaaGreat

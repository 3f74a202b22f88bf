import Derived.Test.YtioigihakjlopaaGreatVR15
namespace Go.Proofs.YtioigihakjlopaaGreat
open Go.Proofs.Tryz
set_option linter.unusedVariables false
set_option linter.unusedSimpArgs false
set_option maxHeartbeats 16000000
set_option maxRecDepth 100000
section
open Go.RowKit
theorem vq (s:ByteArray) (w:As) (B:rG s):Calls prog 94 #[.string s] w fun e w'=>e= .returned (.bool (dm s))/\Below w.heap.size w w':=by
 have E:s.size<=140737488351232:=B;by_cases F:1<=s.size
 .have t0:decide ((s.size:Int)≥1)=true:=soA;have t1:decide ((1:Int)<=(s.size:Int))=true:=soA;have A:dm s=decide ((s.size:Int)<=40):=by
   unfold dm;rw [VK (show s.size≠0 by omega),WU,YY];omega
  rw [A];have t2:decide ((s.size:Int)<=40)=decide ((s.size:Int)<=40):=rfl;go_enter func94,ntmps94;go_wp2_with fail;go_ret;exact ⟨rfl,VW _ _⟩
 .have t0:decide ((s.size:Int)≥1)=false:=soA;have t1:decide ((1:Int)<=(s.size:Int))=false:=soA;have A:dm s=false:=by
   unfold dm;rw [VO (show ¬s.size≠0 by omega),Wj]
  rw [A];go_enter func94,ntmps94;go_wp2_with fail;go_ret;exact ⟨rfl,VW _ _⟩
def sw (p:bF):Bool:=decide (p=dR)
theorem sf (p:bF) (h:dy) (w:As) (G:fb w p h):Calls prog 95 #[bK p h] w fun e w'=>e= .returned (.bool (sw p))/\Below w.heap.size w w':=by
 obtain ⟨op,E,B,target,J,I⟩:=p;obtain ⟨⟨y,F,ic⟩,⟨pa,H,pc⟩⟩:=h;have L:J.length=F:=G.ids.2.1;have M:I.length=H:=G.pairs.2.1;clear G;obtain ⟨R,A⟩:=At (sw ⟨op,E,B,target,J,I⟩);rw [<-A];have O:∃c,(op==0)=c/\(c=false->R=false):=⟨_,rfl,fun h=>by rw [A];refine VO fun e=> ?_;cases e;simp at h⟩;have P:∃c,(E==0)=c/\(c=false->R=false):=⟨_,rfl,fun h=>by rw [A];refine VO fun e=> ?_;cases e;simp at h⟩;have S:∃c,(B==0)=c/\(c=false->R=false):=⟨_,rfl,fun h=>by rw [A];refine VO fun e=> ?_;cases e;simp at h⟩;have T:∃c,(target==0)=c/\(c=false->R=false):=⟨_,rfl,fun h=>by rw [A];refine VO fun e=> ?_;cases e;simp at h⟩;have U:∃c,((F:Int)==0)=c/\(c=false->R=false):=⟨_,rfl,fun h=>by rw [A];refine VO fun e=> ?_;cases e;subst L;simp [dR] at h⟩;have V:∃c,((H:Int)==0)=c/\(c=false->R=false):=⟨_,rfl,fun h=>by rw [A];refine VO fun e=> ?_;cases e;subst M;simp [dR] at h⟩;have Y:op=0->E=0->B=0->target=0->F=0->H=0->R=true:=fun Z b d f g j=>by
  rw [A];refine VK ?_;subst Z b d f;rw [VX (L.trans g),VX (M.trans j)];rfl
 clear A;obtain ⟨c0,f0,n0⟩:=O;obtain ⟨c1,f1,n1⟩:=P;obtain ⟨c2,f2,l⟩:=S;obtain ⟨c3,f3,m⟩:=T;obtain ⟨n,f4,o⟩:=U;obtain ⟨N,f5,r⟩:=V;unfold bK;dsimp only;go_enter func95,ntmps95;go_wp2_with fail
 any_goals first|(have q:=n0 (VY.2 asA);go_ret;exact ⟨by rw [q];rfl,cL⟩)|(have q:=n1 (VY.2 asA);go_ret;exact ⟨by rw [q];rfl,cL⟩)|(have q:=l (VY.2 asA);go_ret;exact ⟨by rw [q];rfl,cL⟩)|(have q:=m (VY.2 asA);go_ret;exact ⟨by rw [q];rfl,cL⟩)|(have q:=o (VY.2 asA);go_ret;exact ⟨by rw [q];rfl,cL⟩)|skip
 have t:op=0:=eq_of_beq (f0.trans asA);have k1:E=0:=eq_of_beq (f1.trans asA);have k2:B=0:=eq_of_beq (f2.trans asA);have k3:target=0:=eq_of_beq (f3.trans asA);have k4:F=0:=(by have:=f4.trans (by assumption:n=true);simpa using this);have A:R=N:=by
  cases N with
  |true=>exact Y t k1 k2 k3 k4 (by simpa using f5)
  |false=>exact r rfl
 go_ret;exact ⟨by rw [A];rfl,cL⟩
theorem FQ (a:bF):sw a=FR a:=by
 obtain ⟨op,F,E,target,B,A⟩:=a;unfold sw FR dR;rw [WX];simp only [Vh,WW];constructor
 .intro e;cases e;exact ⟨rfl,rfl,rfl,rfl,rfl⟩
 .rintro ⟨rfl,rfl,rfl,rfl,h⟩;rw [VX (show B.length=0 by omega),VX (show A.length=0 by omega)]
theorem zB {p:ao} (h:¬(0<=p.game/\0<=p.table)):iE p=false:=by
 have B:nt p 0=false:=by
  show (decide (0<=p.game)&&decide (0<=p.table))=false;by_cases A:0<=p.game
  .rw [VO (show ¬0<=p.table from fun e=>h ⟨A,e⟩),ZX]
  .rw [VO A,Wj]
 unfold iE;rw [B];rfl
theorem FV {p:ao} (h:0<=p.game/\0<=p.table) (A:p.kind=1):iE p=Ga p:=by
 have B:nt p 0=true:=by
  show (decide (0<=p.game)&&decide (0<=p.table))=true;rw [VK h.1,VK h.2];rfl
 have E:nt p 1=Ga p:=(by show (if p.kind=1 then Ga p else true)=_;rw [Vz A]);have F:nt p 2=true:=(by show (if p.kind=1 then true else EU p)=_;rw [Vz A]);unfold iE;rw [B,E,F,WU,Bool.and_true]
theorem FU {p:ao} (h:0<=p.game/\0<=p.table) (A:¬p.kind=1):iE p=EU p:=by
 have B:nt p 0=true:=by
  show (decide (0<=p.game)&&decide (0<=p.table))=true;rw [VK h.1,VK h.2];rfl
 have E:nt p 1=true:=(by show (if p.kind=1 then Ga p else true)=_;rw [VV A]);have F:nt p 2=EU p:=(by show (if p.kind=1 then true else EU p)=_;rw [VV A]);unfold iE;rw [B,E,F,WU,WU]
theorem JK {p:ao} {h:aY} {w:As} (A:dp w p h):Ga p=(decide ((p.fmt.size:Int)<=40)&&(dm p.n0&&(dm p.n1&&(decide ((h.d0.n:Int)<=60)&&(decide ((h.d1.n:Int)<=60)&&(decide ((h.dr.n:Int)<=256)&&sw p.act)))))):=by
 have B:=A.d0.2.1;have E:=A.d1.2.1;have F:=A.dr.2.1;rw [FQ];unfold Ga;rw [B,E,F];have e:∀a b:Nat,decide (a<=b)=decide ((a:Int)<=(b:Int)):=fun a b=>(by rw [YY];omega);rw [e,e,e,e];rfl
theorem JJ {p:ao} {h:aY} {w:As} (A:dp w p h):EU p=((p.kind==2)&&((p.fmt.toList==([]:Le))&&((p.n0.toList==([]:Le))&&((p.n1.toList==([]:Le))&&(((h.d0.n:Int)==0)&&(((h.d1.n:Int)==0)&&(((h.dr.n:Int)==0)&&(p.table==0)))))))):=by
 have B:=A.d0.2.1;have E:=A.d1.2.1;have F:=A.dr.2.1;unfold EU;rw [qC,qC,qC,B,E,F,WX];simp only [Vh,WW,XY];constructor
 .rintro ⟨a,b,c,⟨d,e⟩,f⟩;exact ⟨a,c,d,e,oA,oA,oA,b⟩
 .rintro ⟨a,c,d,e,f,g,i,b⟩;exact ⟨a,b,c,⟨d,e⟩,oA⟩
theorem zg (p:ao) (h:aY) (w:As) (H:dp w p h):Calls prog 33 #[dG p h] w fun e w'=>e= .returned (.bool (iE p))/\Below w.heap.size w w':=by
 have d:=H.n0;have f:=H.n1;have J:=JK H;have L:=JJ H;have Z:=H.act;rw [aD];obtain ⟨R,V⟩:=At (iE p);rw [<-V];have F:=Hd V;clear V H;go_enter func33,ntmps33;go_upto_region 1 with fail;obtain ⟨X,O⟩:=At w.heap.size;rw [<-O];refine ag (fun W=>Blk W X (af p h).toArray 40/\Below w.heap.size w W) ⟨by subst O;exact Blk.new w _ _,by subst O;exact cL⟩ ?_;rintro W1 ⟨G,B⟩;clear O;have A:=G.rule;have P:=sf p.act h.act;generalize g:sw p.act=m at*;generalize j:dm p.n0=b at*;generalize l:dm p.n1=c at*;by_cases M:p.game<0
 .have hr:R=false:=F.out.trans (zB oA);have t0:decide (p.game<0)=true:=(by simpa using M);clear J L F P;unfold af at A;go_wp2_with fail;go_ret;exact ⟨by first|rfl|(rw [hr];rfl),B⟩
 by_cases N:p.table<0
 .have hr:R=false:=F.out.trans (zB oA);have t0:decide (p.game<0)=false:=(by simpa using M);have t1:decide (p.table<0)=true:=(by simpa using N);clear J L F P;unfold af at A;go_wp2_with fail;go_ret;exact ⟨by first|rfl|(rw [hr];rfl),B⟩
 have t0:decide (p.game<0)=false:=(by simpa using M);have t1:decide (p.table<0)=false:=(by simpa using N);by_cases I:p.kind=1
 .have hr:R=_:=(F.out.trans (FV oA I)).trans J;have E:=Hd hr;have t2:(p.kind==1)=true:=(by simpa using I);clear hr J L F M N I;unfold af at A;go_wp2_with fail
  any_goals first
   |(have q:R=false:=(by rw [E.out];rw [VO (show ¬(p.fmt.size:Int)<=40 by omega)];simp);go_ret;exact ⟨by rw [q];rfl,B⟩)
   |skip
  refine (vq _ _ d).mono ?_;rintro e r ⟨rfl,T⟩;rw [j];replace G:=G.old T;replace B:=aa B T;clear A T;have A:=G.rule;unfold af at A;go_wp2_with fail
  any_goals first
   |(have q:R=false:=(by rw [E.out];rw [show b=false from (by first|assumption|exact VY.2 asA)];simp);go_ret;exact ⟨by rw [q];rfl,B⟩)
   |skip
  refine (vq _ _ f).mono ?_;rintro e o ⟨rfl,U⟩;rw [l];replace G:=G.old U;replace B:=aa B U;clear A U;have A:=G.rule;unfold af at A;go_wp2_with fail
  any_goals first
   |(have q:R=false:=(by rw [E.out];rw [show c=false from (by first|assumption|exact VY.2 asA)];simp);go_ret;exact ⟨by rw [q];rfl,B⟩)
   |(have q:R=false:=(by rw [E.out];rw [VO (show ¬(h.d0.n:Int)<=60 by omega)];simp);go_ret;exact ⟨by rw [q];rfl,B⟩)
   |(have q:R=false:=(by rw [E.out];rw [VO (show ¬(h.d1.n:Int)<=60 by omega)];simp);go_ret;exact ⟨by rw [q];rfl,B⟩)
   |(have q:R=false:=(by rw [E.out];rw [VO (show ¬(h.dr.n:Int)<=256 by omega)];simp);go_ret;exact ⟨by rw [q];rfl,B⟩)
   |skip
  have S:=sf p.act h.act o (Z.old B);rw [g] at S;unfold bK at S;refine S.mono ?_;clear S P;rintro e t ⟨rfl,Y⟩;replace B:=aa B Y;have q:R=m:=by
   rw [E.out,show b=true by assumption,show c=true by assumption,VK (show (p.fmt.size:Int)<=40 by assumption),VK (show (h.d0.n:Int)<=60 by assumption),VK (show (h.d1.n:Int)<=60 by assumption),VK (show (h.dr.n:Int)<=256 by assumption)];rfl
  clear A Y;go_wp2_with fail;go_ret;exact ⟨by rw [q];rfl,B⟩
 .have hr:R=_:=(F.out.trans (FU oA I)).trans L;have E:=Hd hr;have t2:(p.kind==1)=false:=(by simpa using I);clear hr J L F M N I P Z;unfold af at A;go_wp2_with fail
  any_goals first
  |(have q:R=(p.table==0):=(by rw [E.out];clear A;simp [*];done);go_ret;exact ⟨by rw [q];rfl,B⟩)
  |(have q:R=false:=(by rw [E.out];clear A;simp [*];done);go_ret;exact ⟨by rw [q];rfl,B⟩)
theorem fY.cell {w:As} {a:Lt} {n c:Nat} {l:List Int} (h:fY w a n c l) (k:Nat) (A:k<l.length):∃b o,a=some ⟨b,o,none⟩/\w.cell? ⟨b,o+k,none⟩=some (.int .i64 l[k]):=by
 obtain ⟨b,o,e,B⟩:=h.1 k (by simpa using A);exact ⟨b,o,e,by simpa using B⟩
def NX (w:As) (v:Int) (f:Nat) (v3 v4:Value) (wr:As):Prop:=
 ∃(k:Nat) (a:Lt) (c:Nat),k+f=8/\v4= .int .i64 (k:Int)/\v3= .slice a k c/\Own wr w.heap.size 5 1 a k c (((be8 v).take k).map bv)/\Below w.heap.size w wr
theorem Bf (v:Int) (w:As):Calls prog 151 #[.int .u64 (IntKind.u64.wrap v)] w fun e w'=>∃a c,e= .returned (.slice a 8 c)/\Own w' w.heap.size 5 1 a 8 c ((be8 v).map bv)/\Below w.heap.size w w':=by
 go_enter func151,ntmps151;go_wp2_with fail;go_loopg [3,4] 8 (NX w v)
 case atStart=>exact ⟨0,none,0,rfl,rfl,rfl,Own.nil _ _ _ _,VW _ _⟩
 case round=>
  obtain ⟨k,a,c,U,rfl,rfl,A,B⟩:=hrel;have M:=B.size;by_cases H:k<8
  .have u0:decide ((k:Int)<8)=true:=soA;have N:IntKind.i64.wrap (8*(k:Int))=8*(k:Int):=VD _ oA;have O:IntKind.i64.wrap (56-8*(k:Int))=56-8*(k:Int):=VD _ oA;have P:(0:Int)<=56-8*(k:Int):=oA;have R:(56-8*(k:Int)).toNat=56-8*k:=oA;have F:IntKind.u64.wrap v/2^(56-8*k)%256=U8 ⟨((BitVec.ofInt 64 v)>>>(56-8*k)).setWidth 8⟩:=pC v _;have I:=Hd F;clear F;have S:=Hd (uH v k H);have G:=A.alloc (.cells #[.int .u8 (IntKind.u64.wrap v/2^(56-8*k)%256)] 5);go_wp2_with (at_builtin;refine al rfl _ _ 22 rfl dU rfl G rfl (av.new' _ _ _ _ rfl) rfA (by exact de _ rfl) mxA oA soA ?_);intro T c2 V E J;have L:=G.grown (B.alloc M _) (VU _) J soA;clear N O P R;go_wp2_with fail;go_roundg (gk-1)
   case measure=>omega
   case rel=>
    refine ⟨k+1,T,c2,oA,gnA,rfl,?_,L⟩;rw [S.out,VF];rw [I.out] at E;simpa [bv] using E
  .have hk8:k=8:=oA;subst hk8;rw [VZ (by rw [an];omega)] at A;go_wp2_with fail;go_ret;exact ⟨a,c,rfl,A,B⟩
def IB (B:Nat) (w:As) (bs:Le) (e:Ending) (w':As):Prop:=∃a c,e= .returned (.slice a bs.length c)/\Own w' B 5 1 a bs.length c (bs.map bv)/\Rx B 5 w w'
theorem iQ (w:As) (B:Nat) (a:Lt) (n c:Nat) (bs:Le) (v:Int) (O:Own w B 5 1 a n c (bs.map bv)) (H:bs.length=n) (I:B<=w.heap.size) (V:n<100000000):
  Calls prog 122 #[.slice a n c,.int .i64 v] w (IB B w (bs++be8 v)):=by
 have R:=Hd H;clear H;have J:=Bf v w;go_enter func122,ntmps122;go_wp2_with fail;refine J.mono ?_;clear J;rintro e w1 ⟨Y,Z,rfl,M,A⟩;have L:=O.old A;have E:=Vd I A.size;go_wp2_with (at_builtin;refine al rfl _ _ 22 rfl dU rfl L rfl M.row (by rw [lmA,an]) (cV _) mxA oA E ?_);intro S c2 T N P;have U:Rx B 5 w T:=Rx.trans _ _ _ (Rx.old A I) (Rx.grown L (VU _) E P);have F:(bs++be8 v).length=n+8:=(by rw [laA,an,R.out]);have G:=Hd F;clear F;go_wp2_with fail;go_ret;refine ⟨S,c2,by (rw [G.out];first|done|rfl|simp),?_,U⟩;rw [G.out,VF];exact N
def GU (w:As) (B:Nat) (bs:Le) (l:List Int) (f:Nat) (v0 v5:Value) (wr:As):Prop:=
 ∃(k:Nat) (a:Lt) (c:Nat) (cs:Le),k+f=l.length/\v5= .int .i64 (k:Int)/\v0= .slice a cs.length c/\Hid (cs=bs++(be8 l.length++(l.take k).flatMap be8))/\Own wr B 5 1 a cs.length c (cs.map bv)/\Rx B 5 w wr
theorem CC (w:As) (B:Nat) (a:Lt) (n c:Nat) (bs:Le) (s:Sl) (l:List Int) (f:Own w B 5 1 a n c (bs.map bv)) (J:bs.length=n) (O:B<=w.heap.size) (P:mC w s l) (hi:InB B s.a s.n) (hz:n+8*s.n+100<100000000):
  Calls prog 123 #[.slice a n c,.slice s.a s.n s.c] w (IB B w (bs++iy l)):=by
 have E:=Hd P.2.1;have HN:=Hd J;have R:=iQ w B a n c bs s.n f J O oA;obtain ⟨sa,A,sc⟩:=s;dsimp only at*;clear J;go_enter func123,ntmps123;go_wp2_with fail;refine R.mono ?_;clear R;rintro e w1 ⟨S,T,rfl,G,j⟩;obtain ⟨cs,hcs⟩:=At (bs++be8 (A:Int));rw [<-hcs] at G⊢;have m:=Hd hcs;clear hcs;have L:GU w B bs l A (.slice S cs.length T) (.int .i64 0) w1:=⟨0,S,T,cs,by rw [E.out];omega,rfl,rfl,Hd (by rw [m.out,E.out];simp),G,j⟩;go_wp2_with fail;go_loopg [0,5] A (GU w B bs l)
 case atStart=>exact L
 case round=>
  clear L G;obtain ⟨k,U,c2,ds,hk,rfl,rfl,H,V,F⟩:=hrel;rw [E.out] at hk;have A0:ds.length<=n+8+8*A:=by
   rw [H.out,laA,laA,an,HN.out,jk an,ltA];omega
  by_cases q:k<A
  .have t0:decide ((k:Int)<(A:Int))=true:=soA;have M:k<l.length:=(by rw [E.out];exact q);obtain ⟨b,o,rfl,Y⟩:=fY.cell (show fY w sa A sc l from P) k M;have r:b<B:=hi oA _ rfl;have A1:wr.cell? ⟨b,o+k,none⟩=some (.int .i64 l[k]):=(by rw [F.1.cell (p:=⟨b,o+k,none⟩) r];exact Y);have HT:=Hd (Vj M);generalize l[k]=x at*;have Z:=iQ wr B U ds.length c2 ds x V rfl (Vd O F.1.size) oA;clear Y;go_wp2_with fail;refine Z.mono ?_;clear Z;rintro e w3 ⟨a3,c3,rfl,N,t⟩;have g:=Rx.trans _ _ _ F t;obtain ⟨d,I⟩:=At (ds++be8 x);rw [<-I] at N⊢;have y:=Hd (show d=bs++(be8 l.length++(l.take (k+1)).flatMap be8) by rw [I,H.out,HT.out,Wo];simp);clear I;go_wp2_with fail;go_roundg (gk-1)
   case measure=>omega
   case rel=>exact ⟨k+1,a3,c3,d,by rw [E.out];omega,gnA,rfl,y,N,g⟩
  .have t0:decide ((k:Int)<(A:Int))=false:=soA;have HF:=Hd (show ds=bs++iy l by rw [H.out,VZ (by rw [E.out];omega)];rfl);go_wp2_with fail;go_ret;rw [<-HF.out];exact ⟨U,c2,rfl,V,F⟩
theorem IB.get {B:Nat} {w w':As} {e:Ending} {bs x:Le} {k:Nat} (h:IB B w (bs++x) e w') (hx:x.length=k):∃(l:Le) (a:Lt) (c:Nat),e= .returned (.slice a l.length c)/\Own w' B 5 1 a l.length c (l.map bv)/\Rx B 5 w w'/\Hid (l=bs++x)/\l.length<=bs.length+k:=by
 obtain ⟨a,c,A,E,F⟩:=h;exact ⟨bs++x,a,c,A,E,F,Hd rfl,by rw [laA,hx];exact VU _⟩
theorem Rx.undrew {B:Nat} {T:TypeId} {w w':As} (h:Rx B T w.drew w'):Rx B T w w':=⟨⟨h.1.os,h.1.tape,h.1.output,h.1.size,h.1.block⟩,⟨h.2.size,h.2.block⟩⟩
theorem Fa {n:Int} (h:wf8 n):IntKind.i64.wrap n=n:=by
 simp [wf8,Lit.wf,IntKind.min,IntKind.max,IntKind.signed,IntKind.bits] at h;exact VD _ oA
def IA (w:As) (B:Nat) (bs:Le) (l:List ci) (f:Nat) (v0 v5:Value) (wr:As):Prop:=
 ∃(k:Nat) (a:Lt) (c:Nat) (cs:Le),k+f=l.length/\v5= .int .i64 (k:Int)/\v0= .slice a cs.length c/\Hid (cs=bs++(l.take k).flatMap km)/\Own wr B 5 1 a cs.length c (cs.map bv)/\Rx B 5 w wr
theorem uE (w:As) (p:bF) (h:dy) (O:fI w w.heap.size p h) (hz:(bZ p).length+5000<100000000):
  Calls prog 78 #[bK p h] w (IB w.heap.size w (bZ p)):=by
 have A2:(bZ p).length=48+8*p.ids.length+16*p.pairs.length:=by
  simp only [bZ,laA,an,xj,fG,uC];omega
 rw [A2] at hz;clear A2;obtain ⟨B,A0⟩:=At w.heap.size;rw [<-A0] at O⊢;have hB:B<=w.heap.size:=VM A0;have p1:=Fa O.at'.op;obtain ⟨op,H,G,target,M,F⟩:=p;dsimp only at hz p1;have d1:M.length=h.ids.n:=O.at'.ids.2.1;have d2:F.length=h.pairs.n:=O.at'.pairs.2.1;rw [d1,d2] at hz;have D1:=Hd d1;have I:=Hd d2;clear d1 d2;rw [dM];go_enter func78,ntmps78;go_upto_region 1 with fail;obtain ⟨X,hX⟩:=At w.heap.size;rw [<-hX];refine ag (fun W=>Blk W X (aw ⟨op,H,G,target,M,F⟩ h).toArray 38/\Below w.heap.size w W) ⟨by rw [hX];exact Blk.new w (aw ⟨op,H,G,target,M,F⟩ h).toArray _,cL⟩ ?_;rintro w0 ⟨N,A3⟩;clear hX;have A4:=Vd hB A3.size;have R0:Rx B 5 w w0:=Rx.old A3 hB;have A5:=O.low R0.1;clear O A0;obtain ⟨P,U⟩:∃l:Le,l=[]:=⟨_,rfl⟩;have o0:Own w0 B 5 1 none P.length 0 (P.map bv):=(by rw [U];exact Own.nil _ _ _ _);have z0:P.length<=0:=(by rw [U];exact VU _);have x0:∀W,Rx B 5 w0.drew W->W.cell? ⟨X,0,none⟩=some (.int .i8 op):=fun W E=>(E.blk N.drew dcA).rule 0;have x1:∀W,Rx B 5 w0.drew W->W.cell? ⟨X,1,none⟩=some (.int .i64 H):=fun W E=>(E.blk N.drew dcA).rule 1;have x2:∀W,Rx B 5 w0.drew W->W.cell? ⟨X,2,none⟩=some (.int .i64 G):=fun W E=>(E.blk N.drew dcA).rule 2;have x3:∀W,Rx B 5 w0.drew W->W.cell? ⟨X,3,none⟩=some (.int .i64 target):=fun W E=>(E.blk N.drew dcA).rule 3;have C1:=Hd U;have V:=iQ w0.drew B none P.length 0 P op o0 rfl A4 oA;have A6:P.length=0:=(by rw [U];rfl);rw [A6] at V;clear U A6;go_wp2_with fail;refine gz B 5 (.step 0 (.step 1 (.step 2 (.step 3 (.step 5 (.step 6 (.step 8 (.step 9 (.step 11 (.step 12 (.step 4 (.step 7 (.step 10 (.step 13 (.step 14 .done))))))))))))))) krA krA cdA ?_
 repeat refine txA ?_
 refine am rfl rfl rfA (fun K A=> ?_);go_wp2_with fail;refine V.mono ?_;clear V;intro e1 w1 g1;obtain ⟨l1,a1,V,rfl,o1,R,H1,z1⟩:=g1.get (an _);have A7:=Vd A4 R.1.size;go_wp2_with fail;refine A _ _ R ?_;clear A K;replace R:=Rx.undrew R;have R1:=Rx.trans _ _ _ R0 R;refine am rfl rfl rfA (fun K A=> ?_);go_wp2_with fail;have c2:=iQ w1 B a1 l1.length V l1 H o1 rfl A7 oA;refine c2.mono ?_;clear c2;intro e2 w2 g2;obtain ⟨l2,a2,c2,rfl,o2,t,H2,z2⟩:=g2.get (an _);have A8:=Vd A7 t.1.size;go_wp2_with fail;refine A _ _ t ?_;clear A K;have R2:=Rx.trans _ _ _ R1 t;refine am rfl rfl rfA (fun K A=> ?_);go_wp2_with fail;have c3:=iQ w2 B a2 l2.length c2 l2 G o2 rfl A8 oA;refine c3.mono ?_;clear c3;intro e3 w3 g3;obtain ⟨l3,a3,c3,rfl,o3,r3,H3,z3⟩:=g3.get (an _);have A9:=Vd A8 r3.1.size;go_wp2_with fail;refine A _ _ r3 ?_;clear A K;have R3:=Rx.trans _ _ _ R2 r3;refine am rfl rfl rfA (fun K A=> ?_);go_wp2_with fail;have c4:=iQ w3 B a3 l3.length c3 l3 target o3 rfl A9 oA;refine c4.mono ?_;clear c4;intro e4 w4 g4;obtain ⟨l4,a4,c4,rfl,o4,r4,H4,z4⟩:=g4.get (an _);have BY:=Vd A9 r4.1.size;go_wp2_with fail;refine A _ _ r4 ?_;clear A K;have R4:=Rx.trans _ _ _ R3 r4;clear x0 x1 x2 x3
 repeat refine txA ?_
 refine aq ?_;have B0:=Rx.trans _ _ _ R (Rx.trans _ _ _ t (Rx.trans _ _ _ r3 r4));have e:=B0.blk N.drew dcA;have f:=A5.low B0.1;have E4:=Hd (show l4=be8 op++be8 H++be8 G++be8 target by rw [H4.out,H3.out,H2.out,H1.out,C1.out];simp);clear H1 H2 H3 H4 N A5;have x4:∀W,Rx B 5 w4.drew W->W.cell? ⟨X,4,none⟩=some (.slice h.ids.a h.ids.n h.ids.c):=fun W E=>(E.blk e.drew dcA).rule 4;have x5:∀W,Rx B 5 w4.drew W->W.cell? ⟨X,5,none⟩=some (.slice h.pairs.a h.pairs.n h.pairs.c):=fun W E=>(E.blk e.drew dcA).rule 5;go_wp2_with fail;refine gz B 5 (.step 0 (.step 1 (.step 2 (.step 4 (.step 5 (.step 6 (.step 3 (.step 7 (.step 8 .done))))))))) krA krA cdA ?_
 repeat refine txA ?_
 refine am rfl rfl rfA (fun K A=> ?_);go_wp2_with fail;have c5:=CC w4.drew B a4 l4.length c4 l4 h.ids M o4 rfl BY f.at'.ids f.ids oA;refine c5.mono ?_;clear c5;intro e5 w5 g5;obtain ⟨l5,a5,c5,rfl,o5,J,H5,z5⟩:=g5.get (fG _);have B1:=Vd BY J.1.size;go_wp2_with fail;refine A _ _ J ?_;clear A K;replace J:=Rx.undrew J;have R5:=Rx.trans _ _ _ R4 J;rw [D1.out] at z5;refine am rfl rfl rfA (fun K A=> ?_);go_wp2_with fail;have Y:=iQ w5 B a5 l5.length c5 l5 h.pairs.n o5 rfl B1 oA;refine Y.mono ?_;clear Y;intro e6 w6 g6;obtain ⟨L,a6,Y,rfl,o6,Z,H6,z6⟩:=g6.get (an _);have C2:=Vd B1 Z.1.size;go_wp2_with fail;refine A _ _ Z ?_;clear A K;have R6:=Rx.trans _ _ _ R5 Z;clear x4 x5
 repeat refine txA ?_
 refine aq ?_;have B2:=(Rx.trans _ _ _ J Z).blk e.drew dcA;have B3:=f.low (Rx.trans _ _ _ J Z).1;have E6:=Hd (show L=be8 op++be8 H++be8 G++be8 target++iy M++be8 F.length by rw [H6.out,H5.out,E4.out,I.out]);clear H5 H6 E4 e f;have B4:IA w6 B L F h.pairs.n (.slice a6 L.length Y) (.int .i64 0) w6:=⟨0,a6,Y,L,by rw [I.out];omega,rfl,rfl,Hd skA,o6,Rx.refl _⟩;go_wp2_with fail;go_loopg [3,4] h.pairs.n (IA w6 B L F)
 case atStart=>exact B4
 case round=>
  clear B4 o6;obtain ⟨k,a8,c8,l8,hk,rfl,rfl,d,o8,S⟩:=hrel;rw [I.out] at hk;have z8:l8.length<=L.length+16*k:=by
   rw [d.out,laA,jk (n:=16) (fun x=>by simp [km,an]),ltA,I.out];omega
  have B5:=Vd C2 S.1.size;have B6:=S.blk B2 dcA;have C3:wr.cell? ⟨X,5,none⟩=some (.slice h.pairs.a h.pairs.n h.pairs.c):=B6.rule 5;by_cases C4:k<h.pairs.n
  .have t0:decide ((k:Int)<(h.pairs.n:Int))=true:=soA;have B7:k<F.length:=(by rw [I.out];exact C4);obtain ⟨b,o,m,D0,hc⟩:=av.elem (g:=ci.cells) (sz:=2) (fun _=>rfl) B3.at'.pairs.1 oA k B7;have B9:b<B:=B3.pairs oA _ m;have y5:∀W,Rx B 5 wr.drew W->W.cell? ⟨X,5,none⟩=some (.slice (some ⟨b,o,none⟩) h.pairs.n h.pairs.c):=fun W E=>(by rw [<-m];exact (E.blk B6.drew dcA).rule 5);rw [m] at C3;clear m;have HT:=Hd (Vj B7);generalize F[k]=u at*;have A1:∀j (hj:j<u.cells.length),∀W,Rx B 5 wr.drew W->W.cell? ⟨b,o+k*2+j,none⟩=some u.cells[j]:=fun j hj W E=>E.cell B9 (S.cell B9 (hc j hj));clear hc;obtain ⟨x,y⟩:=u;have y0:∀W,Rx B 5 wr.drew W->W.cell? ⟨b,o+k*2,none⟩=some (.int .i64 x):=A1 0 (by show 0<2;omega);have y1:∀W,Rx B 5 wr.drew W->W.cell? ⟨b,o+k*2+1,none⟩=some (.int .i64 y):=A1 1 (by show 1<2;omega);clear A1;go_wp2_with fail;refine gz B 5 (.step 0 (.step 1 (.step 2 (.step 3 (.step 4 (.step 5 (.step 6 (.step 8 (.step 9 (.step 10 (.step 11 (.step 12 (.step 13 (.step 7 (.step 14 (.step 15 .done)))))))))))))))) krA krA cdA ?_
   repeat refine txA ?_
   refine am rfl rfl rfA (fun K A=> ?_);go_wp2_with fail;have c9:=iQ wr.drew B a8 l8.length c8 l8 x o8 rfl B5 oA;refine c9.mono ?_;clear c9;intro e9 w9 g9;obtain ⟨l9,a9,c9,rfl,o9,T,H9,z9⟩:=g9.get (an _);have CK:=Vd B5 T.1.size;go_wp2_with fail;refine A _ _ T ?_;clear A K;replace T:=Rx.undrew T;refine am rfl rfl rfA (fun K A=> ?_);go_wp2_with fail;have q:=iQ w9 B a9 l9.length c9 l9 y o9 rfl CK oA;refine q.mono ?_;clear q;intro D3 D4 C5;obtain ⟨CW,C6,q,rfl,C7,r,C0,D5⟩:=C5.get (an _);have DO:=Vd CK r.1.size;go_wp2_with fail;refine A _ _ r ?_;clear A K;clear y0 y1 y5
   repeat refine txA ?_
   refine aq ?_;have C8:=Rx.trans _ _ _ S (Rx.trans _ _ _ T r);have C9:=Hd (show CW=L++(F.take (k+1)).flatMap km by rw [C0.out,H9.out,d.out,HT.out,Wo];simp [km]);clear d H9 C0 S T r;go_wp2_with fail;go_roundg (gk-1)
   case measure=>omega
   case rel=>exact ⟨k+1,C6,q,CW,by rw [I.out];omega,gnA,rfl,C9,C7,C8⟩
  .have t0:decide ((k:Int)<(h.pairs.n:Int))=false:=soA;have HF:=Hd (show l8=bZ ⟨op,H,G,target,M,F⟩ by rw [d.out,VZ (by rw [I.out];omega),E6.out,bZ,Ic];simp);have R8:=Rx.trans _ _ _ R6 S;clear d E6 B2;go_wp2_with fail;go_ret;rw [<-HF.out];exact ⟨a8,c8,rfl,o8,R8⟩
def IC (w:As) (B:Nat) (bs:Le) (v:Int) (f:Nat) (v0 v5:Value) (wr:As):Prop:=
 ∃(k:Nat) (i:Int) (a:Lt) (c:Nat) (cs:Le),k+f=8/\i+1=f/\v5= .int .i64 i/\v0= .slice a cs.length c/\Hid (cs=bs++(be8 v).take k)/\Own wr B 5 1 a cs.length c (cs.map bv)/\Rx B 5 w wr
theorem ie (w:As) (B:Nat) (a:Lt) (n c:Nat) (bs:Le) (v:Int) (M:Own w B 5 1 a n c (bs.map bv)) (I:bs.length=n) (f:B<=w.heap.size) (o:n<100000000):
  Calls prog 77 #[.slice a n c,.int .i64 v] w (IB B w (bs++be8 v)):=by
 have N:IC w B bs v 8 (.slice a n c) (.int .i64 7) w:=⟨0,7,a,c,bs,rfl,rfl,rfl,by rw [I],Hd skA,by rw [I];exact M,Rx.refl _⟩;go_enter func77,ntmps77;go_wp2_with fail;go_loopg [0,5] 8 (IC w B bs v)
 case atStart=>exact N
 case round=>
  clear N M;obtain ⟨k,i,g,c2,ds,q,r,rfl,rfl,G,J,F⟩:=hrel;have m:ds.length<=n+8:=by
   rw [G.out,laA,ltA,an,I];omega
  have V:=Vd f F.1.size;by_cases Y:k<8
  .have u0:decide (0<=i)=true:=soA;have t:IntKind.i64.wrap (8*i)=8*i:=VD _ oA;have y:IntKind.u64.wrap (8*i)=8*i:=(by simp [IntKind.wrap,IntKind.bits,IntKind.signed];omega);have v3:IntKind.i64.wrap (i-1)=i-1:=VD _ oA;have v4:(8*i).toNat=56-8*k:=oA;have S:IntKind.u64.wrap v/2^(56-8*k)%256=U8 ⟨((BitVec.ofInt 64 v)>>>(56-8*k)).setWidth 8⟩:=pC v _;have Z:=Hd S;clear S;have j:=Hd (uH v k Y);have L:=J.alloc (.cells #[.int .u8 (IntKind.u64.wrap v/2^(56-8*k)%256)] 5);go_wp2_with (at_builtin;refine al rfl _ _ 22 rfl dU rfl L rfl (av.new' _ _ _ _ rfl) rfA (by exact de _ rfl) mxA oA soA ?_);intro T U w3 H O;have b:Rx B 5 w w3:=Rx.trans _ _ _ F (Rx.trans _ _ _ (Rx.alloc wr V _) (Rx.grown L (VU _) soA O));obtain ⟨A,E⟩:∃A:Le,A=ds++ [⟨((BitVec.ofInt 64 v)>>>(56-8*k)).setWidth 8⟩]:=⟨_,rfl⟩;have P:A.length=ds.length+1:=(by rw [E];simp);have d:=Hd (show A=bs++(be8 v).take (k+1) by rw [E,G.out,j.out,Vf]);have e:Own w3 B 5 1 T (ds.length+1) U (A.map bv):=by
    rw [E,VF];rw [Z.out] at H;simpa [bv] using H
   have R:=Hd P;clear E H P L O J F;go_wp2_with fail;go_roundg (gk-1)
   case measure=>omega
   case rel=>
    refine ⟨k+1,i-1,T,U,A,oA,oA,rfl,by rw [R.out],d,by rw [R.out];exact e,b⟩
  .have u0:decide (0<=i)=false:=soA;have l:=Hd (show ds=bs++be8 v by rw [G.out,VZ (by rw [an];omega)]);go_wp2_with fail;go_ret;rw [<-l.out];exact ⟨g,c2,rfl,J,F⟩
theorem qm (w:As) (B:Nat) (a:Lt) (n c:Nat) (bs:Le) (s:Sl) (l:List Int) (f:Own w B 5 1 a n c (bs.map bv)) (J:bs.length=n) (O:B<=w.heap.size) (P:mC w s l) (hi:InB B s.a s.n) (hz:n+8*s.n+100<100000000):
  Calls prog 80 #[.slice a n c,.slice s.a s.n s.c] w (IB B w (bs++iy l)):=by
 have E:=Hd P.2.1;have HN:=Hd J;have R:=ie w B a n c bs s.n f J O oA;obtain ⟨sa,A,sc⟩:=s;dsimp only at*;clear J;go_enter func80,ntmps80;go_wp2_with fail;refine R.mono ?_;clear R;rintro e w1 ⟨S,T,rfl,G,j⟩;obtain ⟨cs,hcs⟩:=At (bs++be8 (A:Int));rw [<-hcs] at G⊢;have m:=Hd hcs;clear hcs;have L:GU w B bs l A (.slice S cs.length T) (.int .i64 0) w1:=⟨0,S,T,cs,by rw [E.out];omega,rfl,rfl,Hd (by rw [m.out,E.out];simp),G,j⟩;go_wp2_with fail;go_loopg [0,5] A (GU w B bs l)
 case atStart=>exact L
 case round=>
  clear L G;obtain ⟨k,U,c2,ds,hk,rfl,rfl,H,V,F⟩:=hrel;rw [E.out] at hk;have A0:ds.length<=n+8+8*A:=by
   rw [H.out,laA,laA,an,HN.out,jk an,ltA];omega
  by_cases q:k<A
  .have t0:decide ((k:Int)<(A:Int))=true:=soA;have M:k<l.length:=(by rw [E.out];exact q);obtain ⟨b,o,rfl,Y⟩:=fY.cell (show fY w sa A sc l from P) k M;have r:b<B:=hi oA _ rfl;have A1:wr.cell? ⟨b,o+k,none⟩=some (.int .i64 l[k]):=(by rw [F.1.cell (p:=⟨b,o+k,none⟩) r];exact Y);have HT:=Hd (Vj M);generalize l[k]=x at*;have Z:=ie wr B U ds.length c2 ds x V rfl (Vd O F.1.size) oA;clear Y;go_wp2_with fail;refine Z.mono ?_;clear Z;rintro e w3 ⟨a3,c3,rfl,N,t⟩;have g:=Rx.trans _ _ _ F t;obtain ⟨d,I⟩:=At (ds++be8 x);rw [<-I] at N⊢;have y:=Hd (show d=bs++(be8 l.length++(l.take (k+1)).flatMap be8) by rw [I,H.out,HT.out,Wo];simp);clear I;go_wp2_with fail;go_roundg (gk-1)
   case measure=>omega
   case rel=>exact ⟨k+1,a3,c3,d,by rw [E.out];omega,gnA,rfl,y,N,g⟩
  .have t0:decide ((k:Int)<(A:Int))=false:=soA;have HF:=Hd (show ds=bs++iy l by rw [H.out,VZ (by rw [E.out];omega)];rfl);go_wp2_with fail;go_ret;rw [<-HF.out];exact ⟨U,c2,rfl,V,F⟩
theorem qi (w:As) (B:Nat) (a:Lt) (n c:Nat) (bs:Le) (s:bB) (R:Own w B 5 1 a n c (bs.map bv)) (F:bs.length=n) (L:B<=w.heap.size) (Y:n+s.size+100<100000000):
  Calls prog 79 #[.slice a n c,.string s] w (IB B w (bs++eP s)):=by
 have M:=ie w B a n c bs s.size R F L oA;have N:=Hd F;clear F;go_enter func79,ntmps79;go_wp2_with fail;refine M.mono ?_;clear M;rintro e w1 ⟨Z,b,rfl,A,G⟩;obtain ⟨cs,hcs⟩:=At (bs++be8 (s.size:Int));rw [<-hcs] at A⊢;have E:cs.length=n+8:=(by rw [hcs,laA,an,N.out]);have H:=Vd L G.1.size;have d:=Hd E;rw [E] at A;rw [E];clear E;go_wp2_with (at_builtin;refine jG rfl _ _ 22 9 rfl dU krA underlying9 rfl A rfl oA H ?_);intro O c2 U I S;have T:=Rx.trans _ _ _ G (Rx.grown A (VU _) H S);have J:(bs++eP s).length=n+8+s.size:=(by rw [laA,eP,laA,an,cJ,N.out];omega);have P:=Hd J;have V:Own U B 5 1 O (n+8+s.size) c2 ((bs++eP s).map bv):=(by simpa [eP,VF] using I);clear J I hcs;go_wp2_with fail;go_ret;refine ⟨O,c2,by rw [P.out];rfl,?_,T⟩;rw [P.out];exact V
theorem AC (p:ao) (h:aY) (w:As) (hd:dp w p h) (hz:(bZ p.act).length+5000<100000000):
  Calls prog 29 #[dG p h] w (iK w p):=by
 obtain ⟨S,hS⟩:=At (iK w p);rw [<-hS];have HS:=Hd hS;clear hS;rw [aD];go_enter func29,ntmps29;go_upto_region 1 with fail;obtain ⟨X,T⟩:=At w.heap.size;rw [<-T];refine ag (fun W=>Blk W X (af p h).toArray 40/\Below w.heap.size w W) ⟨by subst T;exact Blk.new w _ _,by subst T;exact cL⟩ ?_;rintro W1 ⟨y,t⟩;clear T;go_wp2_with (refine ap rfl 40 aZ (.tmp 1) rfl rfl y rfl ?_);have B:=zg p h W1 (hd.old t);rw [aD] at B;refine B.mono ?_;clear B;rintro e w1 ⟨rfl,hb⟩;have M:=aa t hb;have A0:=y.old hb;have B0:=hd.old M;clear y t hb hd;cases U:iE p with
 |false=>
  go_wp2_with fail;rw [HS.out];unfold iK;rw [U];exact ⟨rfl,M⟩
 |true=>
  obtain ⟨G,A1⟩:∃G:UInt8,G=if p.kind=2 then 2 else 1:=⟨_,rfl⟩;have B1:IntKind.u8.wrap p.kind=U8 G:=by
   rw [A1];rcases jQ U with e|e<;>rw [e]<;>rfl
  have C3:p.kind%256=U8 G:=(by rw [<-B1];rfl);have B2:=Hd A1;have V:=Hd U;clear A1 U;have A:=A0.rule;unfold af at A;go_upto_region 4 with fail;have hO:Own (w1.alloc (.cells #[.int .u8 (U8 G)] 5)) w1.heap.size 5 1 (some ⟨w1.heap.size,0,none⟩) 1 1 ([G].map bv):=Own.lit _ _ _ rfl rfl (VU _) mxA;have hin:=rq.of B0;obtain ⟨E,I⟩:=At w1.heap.size;rw [<-I] at hO⊢;refine ag (fun W=>Own W E 5 1 (some ⟨E,0,none⟩) 1 1 ([G].map bv)/\Rx E 5 w1 W/\Blk W X (af p h).toArray 40/\E<=W.heap.size) ⟨hO,Rx.old cL (VM I),A0.alloc _,soA⟩ ?_;rintro V0 ⟨o0,R0,A2,B3⟩;clear hO A A0;have A:=A2.rule;unfold af at A;have B4:w.heap.size<=E:=(by rw [I];exact M.size);rw [<-I] at hin;have HG:=Hd I;clear I B0 B1 C3;obtain ⟨l0,J⟩:∃l:Le,l=[G]:=⟨_,rfl⟩;have z0:l0.length<=1:=(by rw [J];exact VU _);have B5:l0.length=1:=(by rw [J];rfl);rw [<-J] at o0;have H0:=Hd J;clear J;have B:=ie V0 E (some ⟨E,0,none⟩) 1 1 l0 p.game o0 B5 B3 oA;go_wp2_with fail;refine B.mono ?_;clear B;intro e1 V1 g;obtain ⟨O,a1,c1,rfl,o1,Y,H1,z1⟩:=g.get (an _);have L:=Rx.trans _ _ _ R0 Y;have A3:=Y.blk A2 dcA;have R:=Vd B3 Y.1.size;clear A o0 Y A2 g;have A:=A3.rule;unfold af at A;clear B5;rcases jQ V.out with F|F;rotate_left
  .have t2:(p.kind==2)=true:=(by simpa using F);have Z:=Hd (show bj p=O++bZ p.act by rw [H1.out,H0.out,B2.out,Vz F];unfold bj;rw [Vz F]);clear F;have B:=uE V1 p.act h.act (fI.of (hin.low L.1).at'.act) hz;unfold bK at B;go_wp2_with fail;refine B.mono ?_;clear B;rintro e V2 ⟨a2,c2,rfl,P,H⟩;obtain ⟨b,A4⟩:∃b,(bZ p.act).length=b:=⟨_,rfl⟩;rw [A4] at P hz⊢;have N:=Vd R H.1.size;have ho:=o1.old H.1;have B6:=Hd A4;clear A4;go_wp2_with (at_builtin;refine al rfl _ _ 22 rfl dU rfl ho rfl P.row (by rw [lmA,B6.out,Vr]) (cV _) mxA oA N ?_);intro c d w6 B7 B9;have f:=Rx.trans _ _ _ L (Rx.trans _ _ _ (Rx.old H.1 R) (Rx.grown ho (VU _) N B9));have HL:O.length+b=(bj p).length:=(by rw [Z.out,laA,B6.out]);have C4:=Hd HL;have C5:Own w6 E 5 1 c (O.length+b) d ((bj p).map bv):=(by rw [Z.out,VF];exact B7);clear HL B7 B9;go_wp2_with fail;rw [HS.out];unfold iK;rw [Vz V.out,<-C4.out];exact ⟨c,d,rfl,C5.lower B4,aa M (f.1.mono (VM HG.out.symm))⟩
  .have t2:(p.kind==2)=false:=(by rw [F];rfl);have C6:=rh V.out F;have HK:=Hd F;obtain ⟨⟨s0,s1,s2⟩,d0,d1,d2⟩:=C6;have J:=(hin.low L.1).at'.d0.2.1;have C8:=(hin.low L.1).at'.d1.2.1;have C9:=(hin.low L.1).at'.dr.2.1;clear F;have B:=ie V1 E a1 O.length c1 O p.table o1 rfl R oA;go_wp2_with fail;refine B.mono ?_;clear B;intro e2 V2 g;obtain ⟨l2,a2,c2,rfl,P,H,H2,z2⟩:=g.get (an _);have R2:=Rx.trans _ _ _ L H;have A5:=H.blk A3 dcA;have N:=Vd R H.1.size;clear A o1 H A3 g;have A:=A5.rule;unfold af at A;have B:=qi V2 E a2 l2.length c2 l2 p.fmt P rfl N oA;go_wp2_with fail;refine B.mono ?_;clear B;intro e3 V3 g;obtain ⟨l3,a3,c3,rfl,o3,j,H3,z3⟩:=g.get (by rw [eP,laA,an,cJ]);have R3:=Rx.trans _ _ _ R2 j;have A6:=j.blk A5 dcA;have CK:=Vd N j.1.size;clear A P j A5 g;have A:=A6.rule;unfold af at A;have B:=qi V3 E a3 l3.length c3 l3 p.n0 o3 rfl CK oA;go_wp2_with fail;refine B.mono ?_;clear B;intro e4 V4 g;obtain ⟨l4,a4,c4,rfl,o4,m,H4,z4⟩:=g.get (by rw [eP,laA,an,cJ]);have R4:=Rx.trans _ _ _ R3 m;have A7:=m.blk A6 dcA;have CW:=Vd CK m.1.size;clear A o3 m A6 g;have A:=A7.rule;unfold af at A;have B:=qi V4 E a4 l4.length c4 l4 p.n1 o4 rfl CW oA;go_wp2_with fail;refine B.mono ?_;clear B;intro e5 V5 g;obtain ⟨l5,a5,c5,rfl,o5,n,H5,z5⟩:=g.get (by rw [eP,laA,an,cJ]);have R5:=Rx.trans _ _ _ R4 n;have A8:=n.blk A7 dcA;have C0:=Vd CW n.1.size;clear A o4 n A7 g;have A:=A8.rule;unfold af at A;have B:=qm V5 E a5 l5.length c5 l5 h.d0 p.d0 o5 rfl C0 (hin.low R5.1).at'.d0 hin.d0 oA;go_wp2_with fail;refine B.mono ?_;clear B;intro e6 V6 g;obtain ⟨l6,c,d,rfl,o6,o,H6,z6⟩:=g.get (fG _);have f:=Rx.trans _ _ _ R5 o;have A9:=o.blk A8 dcA;have C1:=Vd C0 o.1.size;clear A o5 o A8 g;have A:=A9.rule;unfold af at A;have B:=qm V6 E c l6.length d l6 h.d1 p.d1 o6 rfl C1 (hin.low f.1).at'.d1 hin.d1 oA;go_wp2_with fail;refine B.mono ?_;clear B;intro e7 V7 g;obtain ⟨l7,a7,c7,rfl,o7,q,H7,z7⟩:=g.get (fG _);have R7:=Rx.trans _ _ _ f q;have BY:=q.blk A9 dcA;have C2:=Vd C1 q.1.size;clear A o6 q A9 g;have A:=BY.rule;unfold af at A;have B:=qm V7 E a7 l7.length c7 l7 h.dr p.dr o7 rfl C2 (hin.low R7.1).at'.dr hin.dr oA;go_wp2_with fail;refine B.mono ?_
   clear B;intro e8 V8 g;obtain ⟨l8,a8,c8,rfl,o8,r,H8,z8⟩:=g.get (fG _);have R8:=Rx.trans _ _ _ R7 r;have C7:=r.blk BY dcA;have DO:=Vd C2 r.1.size;clear A o7 r BY g;have A:=C7.rule;unfold af at A;have Z:=Hd (show bj p=l8 by
    rw [H8.out,H7.out,H6.out,H5.out,H4.out,H3.out,H2.out,H1.out,H0.out,B2.out,VV (by rw [HK.out];decide)];unfold bj;rw [VV (by rw [HK.out];decide)])
   go_wp2_with fail;rw [HS.out];unfold iK;rw [Vz V.out,Z.out];exact ⟨a8,c8,rfl,o8.lower B4,aa M (R8.1.mono (VM HG.out.symm))⟩
def Gx (q:DC):Int:=if q.bad<0/\q.at_<q.bs.length then (q.at_:Int) else q.bad
theorem Qk (w:As) (B:Nat) (q:DC) (A:DAt w B q) (H:B<=w.heap.size):
  Calls prog 129 #[.pointer (some ⟨q.c,0,none⟩)] w fun e w'=>e= .returned (.bool (decide (Gx q<0)))/\eH B w q w' q.at_ (Gx q):=by
 have F:=A.blk.rule;unfold gU at F;have R:=A.lo;have S:=A.le;have T:=A.max;by_cases E:q.bad<0
 .have d0:decide (q.bad<0)=true:=(by simpa using E);by_cases N:q.at_<q.bs.length
  .have d1:decide ((q.at_:Int)<(q.bs.length:Int))=true:=soA;have O:decide (q.at_<q.bs.length)=true:=soA;have G:Gx q=(q.at_:Int):=(by unfold Gx;rw [Vz ⟨E,N⟩]);rw [G];have P:decide ((q.at_:Int)<0)=false:=skA;rw [P];go_enter func129,ntmps129;go_wp2_with fail;go_quiet (fail);go_upto_region 2 with fail;refine ag (fun W=>eH B w q W q.at_ q.bad) ⟨A.old cL H,aJ.of_below cL⟩ ?_;intro w1 L;clear F;have M:DAt w1 B q:=L.at';have F:=M.blk.rule;unfold gU at F;have I:=pH w1 B q q.at_ M oA;rw [Vz E] at I;go_wp2_with fail;refine I.mono ?_;clear I;rintro e U ⟨rfl,J⟩;clear F;have c2:=J.at'.blk.rule;unfold gU DC.to at c2;dsimp only at c2;go_wp2_with fail;go_ret;exact ⟨rfl,⟨J.at',L.turn.trans J.turn fun _ hx=> .inl hx⟩⟩
  .have d1:decide ((q.at_:Int)<(q.bs.length:Int))=false:=soA;have O:decide (q.at_<q.bs.length)=false:=soA;have G:Gx q=q.bad:=(by unfold Gx;rw [VV fun h=>N h.2]);rw [G];go_enter func129,ntmps129;go_wp2_with fail;go_quiet (fail);go_wp2_with fail;go_ret;exact ⟨by simp [E],⟨A.old cL H,aJ.of_below cL⟩⟩
 .have d0:decide (q.bad<0)=false:=(by simpa using E);have G:Gx q=q.bad:=(by unfold Gx;rw [VV fun h=>E h.1]);rw [G];go_enter func129,ntmps129;go_wp2_with fail;go_quiet (fail);go_wp2_with fail;go_ret;exact ⟨by simp [E],⟨A.old cL H,aJ.of_below cL⟩⟩
theorem ax.setApart {w:As} {B Y:Nat} {s:Sl} {l:List Int} {cs:AS} {t:TypeId} (h:ax w B s l) (E:Blk w Y cs t) (A:t≠3) (i:Nat) (v:Value):ax (w.setCell ⟨Y,i,none⟩ v) B s l:=⟨h.1.setCell_apart E A i v,(h.1.setCell_apart E A i v).row,h.2.2⟩
theorem bE.ret {α:Type} {k:Nat} {b:Int} {x:α} (h: -1<=b):bE k b (fun a=> .ok (x,a)) x k b:=⟨fun _=>rfl,fun h'=>⟨rfl,oA,rfl⟩⟩
theorem eH.set {w wr:As} {B k X i:Nat} {b:Int} {q:DC} (h:eH B w q wr k b) (F:B<=w.heap.size) (A:w.heap.size<=X) (E:X≠q.c) (v:Value):eH B w q (wr.setCell ⟨X,i,none⟩ v) k b:=
 ⟨h.at'.keep (Vq _ _ _ _ (Vl E)) ((VW _ _).setCell (Vd F A) _),h.turn.setCell (x:=⟨X,i,none⟩) (.inr A) v⟩
theorem eH.blk {wr w':As} {B k k' X:Nat} {b E:Int} {q:DC} {cs:AS} {t:TypeId} (h:eH B wr (q.to k b) w' k' E) (hx:Blk wr X cs t) (A:X≠q.c):Blk w' X cs t:=(h.turn.block X hx.lt A).trans hx
def Lp (n k:Nat) (b:Int):Int:=if b<0/\k<n then (k:Int) else b
theorem Kw (q:DC) (k:Nat) (b:Int):Gx (q.to k b)=Lp q.bs.length k b:=rfl
theorem bE.whole {α:Type} {bs:Le} {rd:Le->Nat->Rd α} {x:α} {k:Nat} {b:Int} (h:bE 0 (-1) (rd bs) x k b):
  (Lp bs.length k b<0/\gC rd bs= .ok x)\/(¬Lp bs.length k b<0/\∃p:Nat,Lp bs.length k b=(p:Int)/\gC rd bs= .error p):=by
 have e:=h.2 dcA;unfold gC Lp;cases B:rd bs 0 with
 |error p=>
  rw [B] at e;have e:b=(p:Int):=e;subst e;rw [VV oA];exact .inr ⟨oA,p,rfl,rfl⟩
 |ok y=>
  rw [B] at e;obtain ⟨E,F⟩:=y;obtain ⟨rfl,rfl,rfl⟩:E=x/\b= -1/\k=F:=e;dsimp only;by_cases A:k<bs.length
  .rw [Vz ⟨dcA,A⟩,Vz A];exact .inr ⟨oA,k,rfl,rfl⟩
  .rw [VV (fun h=>A h.2),VV A];exact .inl ⟨dcA,rfl⟩
theorem Mp:lY prog 157 2:=⟨⟨_,underlying157,rfl⟩,krA⟩
def Iz (w:As) (B':Nat) (q:DC) (X:Nat) (op side place target:Int) (ids:List Int) (idsS:Sl) (k6:Nat) (b6:Int) (N:Nat) (f:Nat) (v7:Value) (wr:As):Prop:=
 ∃(i k:Nat) (b:Int) (a:Lt) (c:Nat) (l:List ci),i+f=N/\v7= .int .i64 (i:Int)/\l.length=i/\(∀x∈l,x.wf)/\Own wr B' 157 2 a i c (l.flatMap ci.cells)/\
  Blk wr X (aw ⟨op,side,place,target,ids,[]⟩ ⟨idsS,⟨a,i,c⟩⟩).toArray 38/\ax wr B' idsS ids/\B'<=wr.heap.size/\eH w.heap.size w q wr k b/\
  Hid (∀m k' b',bE k b (bQ (fJ q.bs) f) m k' b'->bE k6 b6 (fj q.bs) (l++m) k' b')
theorem FM (W:As) (B:Nat):bu W B dR lR:=by
 have F:ax W B kH []:=ax.nil _ _;have G:aQ W B kH []:=aQ.nil _ _;have A:ff 0:=(by show (Lit.int .i64 0).wf=true;decide);have E:wf8 0:=(by show (Lit.int .i8 0).wf=true;decide);exact ⟨E,A,A,A,F,G⟩
theorem vy (w:As) (a:Lt) (n cap:Nat) (bs:Le) (hb:aj w a bs) (hn:bs.length=n) (hm:n<=1048576):
  Calls prog 87 #[.slice a n cap] w fun e w'=>∃h,e= .returned (.tuple #[bK (ec bs).1 h,.int .i64 ((ec bs).2.1:Int),.int .i64 (ec bs).2.2])/\bu w' w.heap.size (ec bs).1 h/\Below w.heap.size w w':=by
 have HN:=Hd hn;clear hn;have d0:decide ((1048576:Int)<(n:Int))=false:=soA;go_enter func87,ntmps87;go_upto_region 1 with fail;obtain ⟨X,hX⟩:=At w.heap.size;rw [<-hX];refine ag (fun W=>Blk W X (aw dR lR).toArray 38/\Below w.heap.size w W) ⟨by rw [hX];exact Blk.new w (aw dR lR).toArray _,cL⟩ ?_;rintro W0 ⟨BY,A2⟩;have F0:=BY.lt;have o:w.heap.size<=X:=VM hX.symm;clear hX;go_upto_region 4 with fail;obtain ⟨C,hC⟩:=At W0.heap.size;rw [<-hC];refine ag (fun W=>Blk W C #[.slice a n cap,.int .i64 0,.int .i64 (-1)] 191/\Below W0.heap.size W0 W) ⟨by rw [hC];exact Blk.new W0 _ _,cL⟩ ?_;rintro W1 ⟨B0,A1⟩;have C1:X≠C:=oA;have B1:w.heap.size<=C:=(by have:=A2.size;omega);clear hC;have C2:aj W1 a bs:=hb.below (aa A2 A1);have CK:InB w.heap.size a bs.length:=fun hp ad ha=>by
  obtain ⟨b',o',e1,e2⟩:=hb 0 (by simpa using hp);rw [ha] at e1;cases e1;exact Vx w _ e2
 obtain ⟨q,A0⟩:∃q:DC,q=⟨C,a,cap,bs,0,-1⟩:=⟨_,rfl⟩;have G:w.heap.size<=w.heap.size:=VU _;have s1:eH w.heap.size w q W1 0 (-1):=by
  subst A0;exact ⟨⟨B1,by show Blk W1 C #[.slice a bs.length cap,_,_] _;rw [HN.out];exact B0,C2,CK,Vt _,by show bs.length<=_;rw [HN.out];exact hm,by show (-1:Int)<=-1;decide,by show (-1:Int)<=1048576;decide⟩,aJ.of_below (aa A2 A1)⟩
 have Z:∀k b,(q.to k b).c=C:=(by subst A0;intros;rfl);have L:X≠q.c:=(by subst A0;exact C1);have C3:q.bs=bs:=(by subst A0;rfl);have B2:C=q.c:=(by subst A0;rfl);have C4:=BY.old A1;obtain ⟨B',B3⟩:=At W1.heap.size;have z1:B'<=W1.heap.size:=VM B3;have A3:X<B':=(by have:=A1.size;omega);have A4:w.heap.size<=B':=oA;have f:∀x,x=q.c->x<B':=fun x hx=>(by rw [hx,<-B2,B3];exact B0.lt);have C5:=Hd C3;have B4:=Hd B2;clear A0 BY A2 A1 B0 C2 CK B3 C3 B2;have A:=Jf W1 w.heap.size (q.to 0 (-1)) s1.at' (Vd G s1.turn.size);rw [Z] at A;go_wp2_with fail;refine A.mono ?_;clear A;rintro e V ⟨op,k2,b2,rfl,f2,t,g2⟩;have B:=t.blk C4 L;have P:=B.free;have R:V.cell? ⟨X,0,none⟩=some (.int .i8 0):=B.rule 0;go_upto_region 5 with fail;refine ag (fun W=>Blk W X (aw ⟨op,0,0,0,[],[]⟩ ⟨kH,kH⟩).toArray 38/\eH w.heap.size w q W k2 b2/\B'<=W.heap.size) ⟨B.set 0 (.int .i8 op),(s1.trans t).set G o L (.int .i8 op),by have:=t.turn.size;simp [World.setRow];omega⟩ ?_;clear B t C4 s1 z1 P R;rintro W2 ⟨C6,s2,z2⟩;have A:=vK W2 w.heap.size (q.to k2 b2) s2.at' (Vd G s2.turn.size);rw [Z] at A;go_wp2_with fail;refine A.mono ?_;clear A;rintro e V ⟨m,k3,b3,rfl,t,g3⟩;have f3:=lx m;generalize m.toInt=J at*;have B:=t.blk C6 L;have P:=B.free;have R:V.cell? ⟨X,1,none⟩=some (.int .i64 0):=B.rule 1;go_upto_region 6 with fail;refine ag (fun W=>Blk W X (aw ⟨op,J,0,0,[],[]⟩ ⟨kH,kH⟩).toArray 38/\eH w.heap.size w q W k3 b3/\B'<=W.heap.size) ⟨B.set 1 (.int .i64 J),(s2.trans t).set G o L (.int .i64 J),by have:=t.turn.size;simp [World.setRow];omega⟩ ?_;clear B t C6 s2 z2 P R;rintro W3 ⟨C7,s3,z3⟩;have A:=vK W3 w.heap.size (q.to k3 b3) s3.at' (Vd G s3.turn.size);rw [Z] at A;go_wp2_with fail;refine A.mono ?_;clear A;rintro e V ⟨m,k4,b4,rfl,t,g4⟩;have f4:=lx m;generalize m.toInt=M at*;have B:=t.blk C7 L;have P:=B.free;have R:V.cell? ⟨X,2,none⟩=some (.int .i64 0):=B.rule 2;go_upto_region 7 with fail;refine ag (fun W=>Blk W X (aw ⟨op,J,M,0,[],[]⟩ ⟨kH,kH⟩).toArray 38/\eH w.heap.size w q W k4 b4/\B'<=W.heap.size) ⟨B.set 2 (.int .i64 M),(s3.trans t).set G o L (.int .i64 M),by have:=t.turn.size;simp [World.setRow];omega⟩ ?_;clear B t C7 s3 z3 P R;rintro W4 ⟨C8,s4,z4⟩
 have A:=vK W4 w.heap.size (q.to k4 b4) s4.at' (Vd G s4.turn.size);rw [Z] at A;go_wp2_with fail;refine A.mono ?_;clear A;rintro e V ⟨m,k5,b5,rfl,t,g5⟩;have f5:=lx m;generalize m.toInt=target at*;have B:=t.blk C8 L;have P:=B.free;have R:V.cell? ⟨X,3,none⟩=some (.int .i64 0):=B.rule 3;go_upto_region 8 with fail;refine ag (fun W=>Blk W X (aw ⟨op,J,M,target,[],[]⟩ ⟨kH,kH⟩).toArray 38/\eH w.heap.size w q W k5 b5/\B'<=W.heap.size) ⟨B.set 3 (.int .i64 target),(s4.trans t).set G o L (.int .i64 target),by have:=t.turn.size;simp [World.setRow];omega⟩ ?_;clear B t C8 s4 z4 P R;rintro W5 ⟨C9,s5,z5⟩;have A:=Mu W5 w.heap.size (q.to k5 b5) s5.at' (Vd G s5.turn.size);rw [Z] at A;go_wp2_with fail;refine A.mono ?_;clear A;rintro e V ⟨H,S,k6,b6,rfl,on,t,g6⟩;replace on:=on.lower z5;have B:=t.blk C9 L;have P:=B.free;have R:V.cell? ⟨X,4,none⟩=some (.slice none 0 0):=B.rule 4;go_upto_region 9 with fail;refine ag (fun W=>Blk W X (aw ⟨op,J,M,target,S,[]⟩ ⟨H,kH⟩).toArray 38/\eH w.heap.size w q W k6 b6/\ax W B' H S/\B'<=W.heap.size) ⟨B.set 4 (.slice H.a H.n H.c),(s5.trans t).set G o L (.slice H.a H.n H.c),(on).set ⟨X,4,none⟩ (.slice H.a H.n H.c) A3,by have:=t.turn.size;simp [World.setRow];omega⟩ ?_;clear B t C9 s5 z5 P R on;rintro W6 ⟨DO,s6,CW,z6⟩;have A:=Eh W6 w.heap.size (q.to k6 b6) 16 s6.at' (Vd G s6.turn.size) dcA dcA;rw [Z] at A;go_wp2_with fail;refine A.mono ?_;clear A;rintro e W7 ⟨N,k7,b7,rfl,hN,F1,t7,g7⟩;have r:Iz w B' q X op J M target S H k6 b6 N N (.int .i64 0) W7:=⟨0,k7,b7,none,0,[],oA,rfl,rfl,fun x hx=>by simp at hx,Own.nil _ _ _ _,t7.blk DO L,ax.turn CW t7.turn f,Vd z6 t7.turn.size,s6.trans t7,Hd fun m k' b' h=>g7.list h⟩;clear g7 DO CW z6 s6 t7;go_wp2_with fail;go_loopg [7] N (Iz w B' q X op J M target S H k6 b6 N)
 case atStart=>exact r
 case round=>
  clear r;obtain ⟨i,k,b,a',c,l,hi,rfl,D0,D1,I,bx,O,z,T,A5⟩:=hrel;by_cases F2:i<N
  .have t0:decide ((i:Int)<(N:Int))=true:=soA;go_upto_region 14 with fail;obtain ⟨Y,hY⟩:=At wr.heap.size;rw [<-hY];refine ag (fun W=>Blk W Y #[.int .i64 0,.int .i64 0] 157/\Below wr.heap.size wr W) ⟨by rw [hY];exact Blk.new _ _ _,cL⟩ ?_;rintro Wa ⟨ya,y⟩;have D2:B'<=Y:=oA;have D3:Y≠X:=oA;have A6:Y≠q.c:=fun h=>(by have:=f Y h;omega);have sa:eH w.heap.size w q Wa k b:=⟨T.at'.old y (Vd G T.turn.size),T.turn.trans (aJ.of_below (F:=fun x=>x=q.c) y) fun x hx=> .inl hx⟩;replace bx:=bx.old y;replace O:=ax.old O y;have D4:∀x:Addr,a'=some x->x.block≠Y:=fun x hx=>(by have:=(I.block_lt hx).2.1;omega);replace I:=I.old y;have za:B'<=Wa.heap.size:=Vd z y.size;clear hY T z y;have A:=vK Wa w.heap.size (q.to k b) sa.at' (Vd G sa.turn.size);rw [Z] at A;go_wp2_with fail;refine A.mono ?_;clear A;rintro e Vb ⟨m,kb,bb,rfl,t,hb⟩;have E1:=lx m;generalize m.toInt=u at*;have U:=t.blk ya A6;replace bx:Blk (Vb.setCell ⟨Y,0,none⟩ (.int .i64 u)) X _ _:=(Vq _ _ _ _ (Vl D3)).trans (t.blk bx L);replace O:=ax.setApart (ax.turn O t.turn f) U dcA 0 (.int .i64 u);replace I:=(Own.turn I t.turn f).keepAt (w':=(Vb.setCell ⟨Y,0,none⟩ (.int .i64 u))) fun x hx=>Vq _ _ _ _ (D4 x hx);have P:=U.free;have R:Vb.cell? ⟨Y,0,none⟩=some (.int .i64 0):=U.rule 0;have yb:=U.set 0 (.int .i64 u);have sb:=(sa.trans t).set (i:=0) G (Vd A4 D2) A6 (.int .i64 u);have zb:B'<=(Vb.setCell ⟨Y,0,none⟩ (.int .i64 u)).heap.size:=(by have:=t.turn.size;simp;omega);clear sa ya za U t;go_wp2_with fail;obtain ⟨Wb,hW⟩:=At (Vb.setCell ⟨Y,0,none⟩ (.int .i64 u));rw [<-hW] at bx yb sb zb O I⊢;clear hW P R;have A:=vK Wb w.heap.size (q.to kb bb) sb.at' (Vd G sb.turn.size);rw [Z] at A;refine A.mono ?_;clear A;rintro e Vc ⟨m,kc,bc,rfl,t,hc⟩;have E2:=lx m;generalize m.toInt=v at*;have U:=t.blk yb A6;replace bx:Blk (Vc.setCell ⟨Y,1,none⟩ (.int .i64 v)) X _ _:=(Vq _ _ _ _ (Vl D3)).trans (t.blk bx L);replace O:=ax.setApart (ax.turn O t.turn f) U dcA 1 (.int .i64 v);replace I:=(Own.turn I t.turn f).keepAt (w':=(Vc.setCell ⟨Y,1,none⟩ (.int .i64 v))) fun x hx=>Vq _ _ _ _ (D4 x hx);have P:=U.free;have R:Vc.cell? ⟨Y,1,none⟩=some (.int .i64 0):=U.rule 1;have yc:=U.set 1 (.int .i64 v)
   have sc:=(sb.trans t).set (i:=1) G (Vd A4 D2) A6 (.int .i64 v);have zc:B'<=(Vc.setCell ⟨Y,1,none⟩ (.int .i64 v)).heap.size:=(by have:=t.turn.size;simp;omega);clear sb yb zb U t;go_upto_region 16 with fail;obtain ⟨Wc,hW⟩:=At (Vc.setCell ⟨Y,1,none⟩ (.int .i64 v));rw [<-hW] at bx yc sc zc O I⊢;clear hW P R;have fx:=bx.free;have E3:Wc.cell? ⟨X,5,none⟩=some (.slice a' i c):=bx.rule 5;obtain ⟨gf,E4⟩:∃x,gk=x+1:=⟨gk-1,oA⟩;have g:=A5.out;rw [E4] at g;have E5:=Hd (show ∀m k' b',bE kc bc (bQ (fJ q.bs) gf) m k' b'->bE k6 b6 (fj q.bs) ((l++ [⟨u,v⟩])++m) k' b' from fun m k' b' h=>by
    rw [Vf];exact g _ _ _ (bE.many (bE.seq hb (bE.seq hc (bE.ret sc.at'.lo))) h))
   clear g A5 hb hc;have hA:=I.alloc (.cells #[.int .i64 u,.int .i64 v] 157);go_wp2_with (first|refine ap rfl 157 Mp (.tmp 8) rfl rfl yc rfl ?_|(at_builtin;refine al rfl _ _ 36 rfl xM rfl hA rfl (av.new' _ _ _ _ rfA) rfA (by intro u hu;simp at hu;rcases hu with rfl|rfl<;>rfl) mxA oA soA ?_))
   intro a6 c6 w6 B9 A7;have B5:Below Wc.heap.size Wc (Wc.alloc (.cells #[.int .i64 u,.int .i64 v] 157)):=(VW _ _).alloc (VU _) _;have B6:Below B' Wc w6:=hA.grown (B5.mono zc) (VU _) A7 soA;have s6:=(sc.alloc G (.cells #[.int .i64 u,.int .i64 v] 157)).grown G (hA.lower A4) A7 dcA;replace bx:Blk w6 X _ _:=(B6.block X A3).trans bx;replace O:=(ax.apart (ax.old O B5) hA dcA A7).set ⟨X,5,none⟩ (.slice a6 (i+1) c6) A3;have z6:B'<=w6.heap.size:=Vd zc B6.size;have F3:=bx.free;have F4:w6.cell? ⟨X,5,none⟩=some (.slice a' i c):=bx.rule 5;have EE:=B9.setCell_lt ⟨X,5,none⟩ (.slice a6 (i+1) c6) A3;have E0:=bx.set 5 (.slice a6 (i+1) c6);have E6:=s6.set (i:=5) G o L (.slice a6 (i+1) c6);clear E3 fx hA B5 B6 A7 yc I sc zc B9;go_wp2_with fail;go_roundg gf
   case measure=>omega
   case rel=>
    refine ⟨i+1,kc,bc,a6,c6,l++ [⟨u,v⟩],oA,gnA,by simp [D0],?_,by simpa [ci.cells] using EE,E0,O,by simpa using z6,E6,E5⟩;intro x hx;rcases Ve.1 hx with hx|hx
    .exact D1 x hx
    .rw [VS.1 hx];exact ⟨E1,E2⟩
  .have t0:decide ((i:Int)<(N:Int))=false:=soA;have E7:gk=0:=oA;have g:=A5.out;rw [E7] at g;have A8:=g [] k b (bE.none T.at'.lo);rw [WO] at A8;have C0:bE 0 (-1) (eX bs) ⟨op,J,M,target,S,l⟩ k b:=by
    rw [<-C5.out];exact bE.seq g2 (bE.seq g3 (bE.seq g4 (bE.seq g5 (bE.seq g6 (bE.seq A8 (bE.ret T.at'.lo))))))
   replace bx:Blk wr X (aw ⟨op,J,M,target,S,l⟩ ⟨H,⟨a',i,c⟩⟩).toArray 38:=bx;clear A5 g A8;clear g2 g3 g4 g5 g6;have A:=Qk wr w.heap.size (q.to k b) T.at' (Vd G T.turn.size);rw [Z,Kw,C5.out] at A;have has:∀(ad:Addr) (w:As),(asAddr (.pointer (some ad))).run prog w= .ok ad w:=fun _ _=>rfl;have D5:=C0.whole;clear C0;generalize Lp bs.length k b=E at A D5;rcases D5 with ⟨hE,hr⟩|⟨hE,p,rfl,hr⟩
   .have d1:decide (E<0)=true:=(by simpa using hE);rw [d1] at A;have HR:=Hd (show ec bs=(⟨op,J,M,target,S,l⟩,0,0) by unfold ec;rw [hr]);clear hr hE;go_wp2_with fail;refine A.mono ?_;clear A;rintro e V ⟨rfl,t⟩;have B:=t.blk bx L;have EQ:=qd B;have r:=T.trans t;have ou:aQ wr B' ⟨a',i,c⟩ l:=⟨I,I.row,D0,I.le,I.cap_le,by dsimp only;omega,D1⟩;have own:bu V B' ⟨op,J,M,target,S,l⟩ ⟨H,⟨a',i,c⟩⟩:=⟨f2,f3,f4,f5,ax.turn O t.turn f,aQ.turn ou t.turn f⟩;clear t T bx O I;go_wp2_with (first|refine ap rfl 38 gJ (.tmp 2) rfl rfl B rfl ?_|(refine ae rfl 38 gJ (.tmp 2) _ rfl rfl rfl B rfl rfl rfl ?_;rw [EQ]));have cx:(loadVar 38 ⟨X,0,none⟩).run prog V= .ok (bK ⟨op,J,M,target,S,l⟩ ⟨H,⟨a',i,c⟩⟩) V:=dv gJ (cs:=aw ⟨op,J,M,target,S,l⟩ ⟨H,⟨a',i,c⟩⟩) (fun j hj=>by rw [VN,B.rule j];simp [hj]) rfl;refine YO (v:= .tuple #[bK ⟨op,J,M,target,S,l⟩ ⟨H,⟨a',i,c⟩⟩,.int .i64 0,.int .i64 0]) ?_ rfl ?_
    .simp [results,Tryz.results87,has,cx]
    .rw [HR.out];exact ⟨⟨H,⟨a',i,c⟩⟩,rfl,own.lower A4,r.turn.below (fun x hx=>by subst hx;rw [<-B4.out];exact B1) G⟩
   .have d1:decide ((p:Int)<0)=false:=skA;rw [d1] at A;have HR:=Hd (show ec bs=(dR,p,180) by unfold ec;rw [hr]);clear hr hE;go_wp2_with fail;refine A.mono ?_;clear A;rintro e V ⟨rfl,t⟩;have B:=t.blk bx L;have r:=T.trans t;clear t T bx O I;go_upto_region 18 with fail;have E8:Blk V C (gU (q.to k (p:Int))) 191:=(by rw [B4.out];exact r.at'.blk);refine ah false (au (fun x=>x=C)) (au.refl _) (fun _ _ _ h1 h2=>au.trans h1 h2) (.step 0 (.step 1 (.step 2 (.step 3 (.step 4 (.step 5 (.step 6 (.step 7 .done)))))))) krA krA cdA ?_;have kc:∀W,au (fun x=>x=C) V.drew W->∀i,W.cell? ⟨C,i,none⟩=(gU (q.to k (p:Int)))[i]? :=fun W hW=>(show Blk W C _ _ from (hW.2 _ rfl).trans E8).rule;unfold gU DC.to at kc;dsimp only at kc
    repeat refine txA ?_
    refine am rfl rfl rfA (fun K hK=> ?_);refine bq (cells:=(aw dR lR).toArray) 38 gJ _ _ rfl rfl rfl B.drew rfl (by first|(show 0+23<=23;omega)|(show 0+6<=6;omega)) rfl ?_;obtain ⟨d,A9⟩:=At (cU (aw ⟨op,J,M,target,S,l⟩ ⟨H,⟨a',i,c⟩⟩).toArray 0 (aw dR lR).toArray);rw [<-A9];have B7:Blk (V.drew.setRow X d) X d 38:=B.drew.setRow d;have D6:∀x,x≠X->(V.drew.setRow X d).heap[x]? =V.heap[x]? :=fun x hx=>Wf _ _ _ _ hx;have E9:Below w.heap.size w V:=r.turn.below (fun x hx=>by subst hx;rw [<-B4.out];exact B1) G;have D7:Below w.heap.size w (V.drew.setRow X d):=ak E9.drew o _;have D8:V.heap.size<=(V.drew.setRow X d).heap.size:=(by simp [World.setRow]);obtain ⟨w2,D9⟩:=At (V.drew.setRow X d);rw [<-D9] at B7 D6 D7 D8⊢;clear D9;have hcs:d=(aw dR lR).toArray:=(by rw [A9];rfl);rw [hcs] at B7;clear A9 hcs;refine hK _ _ ⟨D8,fun x hx=>D6 x (by rw [show x=C from hx];exact Vl C1)⟩ ?_;clear hK K
    repeat refine txA ?_
    refine aq ?_;go_wp2_with fail;have cx:(loadVar 38 ⟨X,0,none⟩).run prog w2= .ok (bK dR lR) w2:=dv gJ (cs:=aw dR lR) (fun j hj=>by rw [VN,B7.rule j];simp [hj]) rfl;refine YO (v:= .tuple #[bK dR lR,.int .i64 (p:Int),.int .i64 180]) ?_ rfl ?_
    .simp [results,Tryz.results87,has,cx]
    .rw [HR.out];exact ⟨lR,rfl,FM _ _,D7⟩
theorem xm (s:CS) (h:(bp s).2.b.length<=1048576):rG (dK (jJ s).1):=by
 unfold rG;rw [nD];have A:=re s 1 dcA;unfold jJ;dsimp only;rw [ltA];have B:(dQ 1 s).2.b.length<=1048576:=by
  unfold dQ;split
  .exact h
  .exact h
 omega
structure FW (w:As) (X C D:Nat) (a:Lt) (cap:Nat) (bs:Le) (p:ao) (h:aY) (s:CS) (W:As):Prop where
 cur:FAt W w.heap.size C a cap bs s
 bX:Blk W X cM 40
 bD:Blk W D (af p h).toArray 40
 own:be W (C+1) p h
 below:Below w.heap.size w W
section
variable {w W W1:As} {X C D:Nat} {p p':ao} {h h':aY} {s s1:CS} {a:Lt} {cap:Nat} {bs:Le}
theorem FAt.blk (h:FAt W w.heap.size C a cap bs s):∃k,Blk W C (fcV a bs.length cap k s.bad) 149:=by
 obtain ⟨k,h,-⟩:=h;exact ⟨k,h.blk⟩
theorem FW.turn (q:FW w X C D a cap bs p h s W) (H:w.heap.size<=C) (E:FAt W1 w.heap.size C a cap bs s1) (A:aJ (fun x=>x=C) W W1):FW w X C D a cap bs p h s1 W1:=by
 obtain ⟨k,B⟩:=q.cur.blk;have F:X≠C:=q.bX.ne B dcA;have G:D≠C:=q.bD.ne B dcA;exact ⟨E,(A.block X q.bX.lt F).trans q.bX,(A.block D q.bD.lt G).trans q.bD,q.own.turn A (fun x hx=>by omega),q.below.trans (A.below (fun x hx=>by omega) q.below.size)⟩
theorem FW.put (q:FW w X C D a cap bs p h s W) (A:w.heap.size<=D) (B:X≠D) (i:Nat) (v:Value) (e:(af p h).toArray.setIfInBounds i v=(af p' h').toArray) (E:be (W.setCell ⟨D,i,none⟩ v) (C+1) p' h'):FW w X C D a cap bs p' h' s (W.setCell ⟨D,i,none⟩ v):=by
 obtain ⟨k,F⟩:=q.cur.blk;have G:C≠D:=F.ne q.bD dcA;refine ⟨q.cur.keep (Vq W ⟨D,i,none⟩ C v G) (YH (p:=⟨D,i,none⟩) (VW _ _) A v),q.bX.other _ _ B,?_,E,YH (p:=⟨D,i,none⟩) q.below A v⟩;rw [<-e];exact q.bD.set i v
theorem FW.old (q:FW w X C D a cap bs p h s W) (A:Below W.heap.size W W1):FW w X C D a cap bs p h s W1:=
 ⟨q.cur.keep (A.block C q.cur.lt) (A.mono q.below.size),q.bX.old A,q.bD.old A,q.own.old A,aa q.below A⟩
theorem FW.putRow (q:FW w X C D a cap bs p h s W) (A:w.heap.size<=D) (B:X≠D) (E:be (W.setRow D (af p' h').toArray) (C+1) p' h'):FW w X C D a cap bs p' h' s (W.setRow D (af p' h').toArray):=by
 obtain ⟨k,F⟩:=q.cur.blk;have G:C≠D:=F.ne q.bD dcA;exact ⟨q.cur.keep (Xi W D C _ G) (ak (VW _ _) A _),q.bX.setRow_other _ _ B,q.bD.setRow _,E,ak q.below A _⟩
theorem FAt.max (h:FAt W w.heap.size C a cap bs s):s.b.length<=1048576:=by
 obtain ⟨k,h,e⟩:=h;rw [e,ldA];have:=h.max;omega
end
def FRdN (w:As) (X C D:Nat) (a:Lt) (cap:Nat) (bs:Le) (T:ao×CS) (f:Nat) (i:Value) (W:As):Prop:=∃(k:Nat) (p:ao) (h:aY) (s:CS),k+f=2/\i= .int .i64 (k:Int)/\FW w X C D a cap bs p h s W/\Hid (T=Kr f p s)
def FRdK (w:As) (X C D:Nat) (a:Lt) (cap:Nat) (bs:Le) (T:ao×CS) (f:Nat) (i:Value) (W:As):Prop:=∃(k:Nat) (p:ao) (h:aY) (s:CS),k+f=2/\i= .int .i64 (k:Int)/\FW w X C D a cap bs p h s W/\Hid (T=DY f p s)
def Oh (w:As) (X C D:Nat) (a:Lt) (cap:Nat) (bs:Le) (T:ao×CS) (W:As):Prop:=∃h:aY,FW w X C D a cap bs T.1 h T.2 W
def QH (w:As) (X C D:Nat) (a:Lt) (cap:Nat) (bs:Le) (kd g:Int) (s1:CS) (T:ao×CS) (wx:As):Prop:=
 ((kd=2/\Oh w X C D a cap bs T wx)\/(kd≠2/\FW w X C D a cap bs (jZ kd g) dN s1 wx))/\wx.cell? ⟨D,0,none⟩=some (.int .i8 kd)
theorem DP (w:As) (a:Lt) (n cap:Nat) (bs:Le) (hb:aj w a bs) (N:bs.length=n) (hm:n<=1048576) (hc:n<=cap):
  Calls prog 31 #[.slice a n cap] w (jV w bs):=by
 match bs,N with
 | [],N=>
  obtain rfl:n=0:=(by simpa using N.symm);go_enter func31,ntmps31;go_upto_region 2 with fail;obtain ⟨X,l⟩:=At w.heap.size;rw [<-l];refine ag (fun W=>Blk W X cM 40/\Below w.heap.size w W) ⟨by subst l;exact Blk.new w _ _,by subst l;exact cL⟩ ?_;rintro W1 ⟨m,o⟩;have B0:w.heap.size<=X:=VM l.symm;clear l;go_wp2_with (refine ae rfl 40 aZ (.tmp 2) _ rfl rfl rfl m rfl rfl rfA ?_);exact aX rfl aZ rfl (m.setRow _) rfl rfl rfl ⟨dN,rfl,ep _ _,ak o B0 _⟩
 |y::r,N=>
  have d0:decide ((n:Int)<1)=false:=(by rw [<-N,VC];exact VO oA);obtain ⟨E,F,rfl,C8⟩:=hb.at skA;have B5:=C8 0 skA;simp only [Yf,Yn] at B5;have D7:=Vx w _ B5;have D8:(0:Int)<(n:Int):=(by rw [<-N,VC];omega);go_enter func31,ntmps31;go_upto_region 4 with fail;obtain ⟨X,l⟩:=At w.heap.size;rw [<-l];refine ag (fun W=>Blk W X cM 40/\FAt W w.heap.size (X+1) (some ⟨E,F,none⟩) cap (y::r) ⟨r,false⟩/\Below w.heap.size w W) ⟨by subst l;exact Blk.new2 w _ _ _,?_,by subst l;exact cL⟩ ?_
  .refine ⟨1,⟨?_,(hb.alloc _).alloc _,hb.inB rfl,oA,skA,by rw [N];omega,by rw [N];exact hc⟩,rfl⟩;rw [N];subst l;exact Blk.new2' w _ _ _
  rintro W1 ⟨m,B6,o⟩;have B0:w.heap.size<=X:=VM l.symm;clear l;obtain ⟨C,hC⟩:=At (X+1);rw [<-hC] at B6⊢;have E3:X≠C:=oA;have d:w.heap.size<=C:=oA;clear hC;have D6:W1.cell? ⟨E,F,none⟩=some (.int .u8 (U8 y)):=(o.cell (p:=⟨E,F,none⟩) D7).trans B5;obtain ⟨I,B7⟩:=At (lJ y);have D9:IntKind.i8.wrap (U8 y)=I:=B7.symm;have C9:wf8 I:=(by rw [B7];exact th y);have DO:=Hd B7;clear B7 C8 B5;have EE:=Hd C9;clear C9;go_upto_region 5 with (refine ae rfl 40 aZ (.tmp 5) _ rfl rfl rfl (Blk.new _ _ _) rfl rfl rfA ?_);obtain ⟨D,hD⟩:=At W1.heap.size;rw [<-hD];refine ag (fun W=>FW w X C D (some ⟨E,F,none⟩) cap (y::r) (jZ I 0) dN ⟨r,false⟩ W) ?_ ?_
  .have bD:=(Blk.new W1 cM 40).setRow (cU cM 0 (af (jZ I 0) dN).toArray);rw [nG] at bD;have B9:Below W1.heap.size W1 ((W1.alloc (.cells cM 40)).setRow D (af (jZ I 0) dN).toArray):=ak ((VW _ _).alloc (VU _) _) (VM hD.symm) _;have fw:FW w X C D (some ⟨E,F,none⟩) cap (y::r) (jZ I 0) dN ⟨r,false⟩ ((W1.alloc (.cells cM 40)).setRow D (af (jZ I 0) dN).toArray):=
    ⟨B6.keep (B9.block C B6.lt) (B9.mono o.size),m.old B9,by rw [hD];exact bD,⟨EE.out,rfl,rfl,Vt _,Vt _,Vt _,ax.nil _ _,ax.nil _ _,ax.nil _ _,⟨rfl,rfl,rfl,rfl,ax.nil _ _,aQ.nil _ _⟩⟩,aa o B9⟩
   exact fw
  have A2:X≠D:=(by have:=m.lt;omega);have A3:w.heap.size<=D:=(by rw [hD];exact o.size);clear B6 D6 D9 m o hD;intro W2 q;have G:=jj W2 w.heap.size C _ cap _ _ q.cur q.below.size;go_wp2_with fail;refine G.mono ?_;clear G;rintro e W3 ⟨rfl,D0,D1⟩;have q3:=q.turn d D0 D1;have HG:=Hd (jC ⟨r,false⟩);obtain ⟨T,B⟩:=At (Oc I ⟨r,false⟩);have HR:=Hd (show gB (y::r)=wm T by rw [B,DO.out];exact FD y r);have HT:=Hd (show T=if I=2 then Of ⟨r,false⟩ else if I=1 then uw (jZ 1 (bp ⟨r,false⟩).1) (bp ⟨r,false⟩).2 else (jZ I (bp ⟨r,false⟩).1,(bp ⟨r,false⟩).2) from B);unfold Of at HT;clear B q D0 D1;generalize (bp ⟨r,false⟩).1=g at*;generalize (bp ⟨r,false⟩).2=s1 at*;have f3:=q3.bD.free;have l3:W3.cell? ⟨D,1,none⟩=some (.int .i64 0):=q3.bD.cell rfl;go_upto_region 7 with fail;refine ag (fun W=>FW w X C D (some ⟨E,F,none⟩) cap (y::r) (jZ I g) dN s1 W) (q3.put A3 A2 1 _ rfl ?_) ?_
  .have:=q3.own.cell1 (i:=1) q3.bD dcA dcA (.int .i64 g);exact ⟨this.kind,HG.out,this.table,this.fmt,this.n0,this.n1,this.d0,this.d1,this.dr,this.act⟩
  clear q3 f3 l3;intro W4 q;have ck:W4.cell? ⟨D,0,none⟩=some (.int .i8 I):=q.bD.cell rfl;obtain ⟨tb,D2⟩:=At ((decide (I=2)&& !s1.bad));have A8:=Hd D2;clear D2;go_cut [42] (fun v wx=>v= .bool tb/\wx=W4)
  case first=>
   obtain ⟨k,J,A5⟩:=q.cur;have c2:W4.cell? ⟨C,2,none⟩=some (.bool s1.bad):=J.blk.cell rfl;by_cases A4:I=2
   .subst A4;have e:tb= !s1.bad:=(by rw [A8.out];simp);subst e;clear A8 q J;go_wp2_with fail;go_meet;exact ⟨by first|rfl|simp,rfl⟩
   .have e:tb=false:=(by rw [A8.out,VO A4];rfl);subst e;have t2:(I==2)=false:=(by simpa using A4);clear A8 q J;go_wp2_with fail;go_meet;exact ⟨rfl,rfl⟩
  case rest=>
  obtain ⟨rfl,rfl⟩:=hcut;go_upto_if 42 with fail;go_cut [7,8,9] (fun _ _ _ wx=>QH w X C D (some ⟨E,F,none⟩) cap (y::r) I g s1 T wx)
  case first=>
   by_cases A4:I=2
   .subst A4;obtain ⟨k,J,A5⟩:=q.cur;have c1:wc.cell? ⟨C,1,none⟩=some (.int .i64 (k:Int)):=J.blk.cell rfl;have c2:wc.cell? ⟨C,2,none⟩=some (.bool s1.bad):=J.blk.cell rfl;cases A9:s1.bad with
    |true=>
     rw [A9] at c2;have B:T=(jZ 2 g,s1):=(by rw [HT.out,Vz rfl,Vz A9]);obtain rfl:tb=false:=(by rw [A8.out,A9];rfl);have A0:Oh w X C D (some ⟨E,F,none⟩) cap (y::r) T wc:=⟨dN,by rw [B];exact q⟩;have BY:=Hd A0;clear A0 B J q;go_wp2_with fail;go_meet;exact ⟨.inl ⟨rfl,BY.out⟩,ck⟩
    |false=>
     obtain rfl:tb=true:=(by rw [A8.out,A9];rfl);have A1:=J.blk.lt;have D3:k<=n:=(by rw [<-N];exact J.le);have i2:(k:Int)<=(n:Int):=oA;have i3:((n:Int)).toNat-k=n-k:=oA;rw [A9] at c2;have CK:=aj.cutV J.row rfl J.capOk k J.le;by_cases C0:cap=k
     .rw [show lF (some ⟨E,F,none⟩) cap k=some ⟨E,F,none⟩ from Vz C0] at CK;subst C0;have i4:n-cap=0:=oA;have B1:aj wc (some ⟨E,F,none⟩) s1.b:=(by rw [A5];exact CK);have G:=vy wc (some ⟨E,F,none⟩) 0 0 s1.b B1 (by rw [A5,ldA,N];try omega) oA;generalize (ec s1.b).1=pa at*;generalize (ec s1.b).2.1=ka at*;generalize (ec s1.b).2.2=O at*;have A7:=Hd HT.out;clear HT B1;go_wp2_with fail;refine G.mono ?_;clear G;rintro e W5 ⟨P,rfl,H,B2⟩;have q5:=q.old B2;replace H:=H.lower (B':=C+1) A1;clear q J c1 c2 ck;rw [dM];go_upto_region 9 with (refine ae rfl 38 Is (.tmp 7) _ rfl rfl rfl (Blk.new _ _ _) rfl rfl rfA ?_);obtain ⟨Y,hY⟩:=At W5.heap.size;rw [<-hY];refine ag (fun W=>FW w X C D (some ⟨E,F,none⟩) cap (y::r) (jZ 2 g) dN s1 W/\Blk W Y (aw pa P).toArray 38/\bu W (C+1) pa P) ⟨q5.old (by subst hY;exact cL),by subst hY;exact (Blk.new W5 _ _).setRow _,H.old (by subst hY;exact cL)⟩ ?_;clear q5 H hY B2;rintro W6 ⟨q6,bY,H⟩;have A6:=q6.bD;go_upto_region 10 with (first|refine ap rfl 38 Is (.tmp 7) rfl rfl bY rfl ?_|refine fh rfl 38 Is (.tmp 55) _ rfl rfl rfl A6 rfl (VU 15) rfA ?_);rw [show cU (af (jZ 2 g) dN).toArray 9 (aw pa P).toArray=(af {jZ 2 g with act:=pa} {dN with act:=P}).toArray from rfl];refine ag (fun W=>FW w X C D (some ⟨E,F,none⟩) cap (y::r) {jZ 2 g with act:=pa} {dN with act:=P} s1 W) (q6.putRow A3 A2 ?_) ?_
      .have this:=q6.own.row1 A6 dcA dcA (af {jZ 2 g with act:=pa} {dN with act:=P}).toArray;exact ⟨this.kind,this.game,this.table,this.fmt,this.n0,this.n1,this.d0,this.d1,this.dr,H.row1 A6 dcA dcA _⟩
      clear q6 H A6 bY;intro U q7;have B:T=({jZ 2 g with act:=pa},⟨[],decide (O≠0)⟩):=by
       rw [A7.out];simp only [YV,A9,VV Bool.false_ne_true]
      have C1:=Hd B;clear B A7;obtain ⟨k7,S,EQ⟩:=q7.cur;have d0:U.cell? ⟨C,0,none⟩=some (.slice (some ⟨E,F,none⟩) (y::r).length cap):=S.blk.cell rfl;have d1:U.cell? ⟨C,1,none⟩=some (.int .i64 (k7:Int)):=S.blk.cell rfl;have d2:U.cell? ⟨C,2,none⟩=some (.bool s1.bad):=S.blk.cell rfl;have f7:=S.blk.free;have A0:QH w X C D (some ⟨E,F,none⟩) cap (y::r) 2 g s1 T ((U.setCell ⟨C,2,none⟩ (.bool (O !=0))).setCell ⟨C,1,none⟩ (.int .i64 (n:Int))):=by
       have h8:=S.setBad (O !=0);have h9:=h8.setAt (y::r).length (VU _);rw [N] at h9;have q8:FW w X C D (some ⟨E,F,none⟩) cap (y::r) {jZ 2 g with act:=pa} {dN with act:=P} ⟨[],O !=0⟩ ((U.setCell ⟨C,2,none⟩ (.bool (O !=0))).setCell ⟨C,1,none⟩ (.int .i64 (n:Int))):=
        q7.turn d ⟨n,h9,by dsimp only;rw [<-N,Yv]⟩ (((aJ.refl (fun x=>x=C) U).one _).one _)
       refine ⟨.inl ⟨rfl,{dN with act:=P},?_⟩,q8.bD.cell rfl⟩;rw [C1.out];have e:decide (O≠0)=(O !=0):=(by simp [bne];by_cases h:O=0<;>simp [h]);dsimp only
       rw [e];exact q8
      have BY:=Hd A0;clear A0 q7 S;go_wp2_with fail;go_meet;exact BY.out
     .rw [show lF (some ⟨E,F,none⟩) cap k=some ⟨E,F+k,none⟩ from by unfold lF;rw [VV C0,Vr,Xt,WA]] at CK;have B1:aj wc (some ⟨E,F+k,none⟩) s1.b:=(by rw [A5];exact CK);have G:=vy wc (some ⟨E,F+k,none⟩) (n-k) (cap-k) s1.b B1 (by rw [A5,ldA,N];try omega) oA;generalize (ec s1.b).1=pa at*;generalize (ec s1.b).2.1=ka at*;generalize (ec s1.b).2.2=O at*;have A7:=Hd HT.out;clear HT B1;go_wp2_with fail;refine G.mono ?_;clear G;rintro e W5 ⟨P,rfl,H,B2⟩;have q5:=q.old B2;replace H:=H.lower (B':=C+1) A1;clear q J c1 c2 ck;rw [dM];go_upto_region 9 with (refine ae rfl 38 Is (.tmp 7) _ rfl rfl rfl (Blk.new _ _ _) rfl rfl rfA ?_);obtain ⟨Y,hY⟩:=At W5.heap.size;rw [<-hY];refine ag (fun W=>FW w X C D (some ⟨E,F,none⟩) cap (y::r) (jZ 2 g) dN s1 W/\Blk W Y (aw pa P).toArray 38/\bu W (C+1) pa P) ⟨q5.old (by subst hY;exact cL),by subst hY;exact (Blk.new W5 _ _).setRow _,H.old (by subst hY;exact cL)⟩ ?_;clear q5 H hY B2;rintro W6 ⟨q6,bY,H⟩;have A6:=q6.bD;go_upto_region 10 with (first|refine ap rfl 38 Is (.tmp 7) rfl rfl bY rfl ?_|refine fh rfl 38 Is (.tmp 55) _ rfl rfl rfl A6 rfl (VU 15) rfA ?_);rw [show cU (af (jZ 2 g) dN).toArray 9 (aw pa P).toArray=(af {jZ 2 g with act:=pa} {dN with act:=P}).toArray from rfl];refine ag (fun W=>FW w X C D (some ⟨E,F,none⟩) cap (y::r) {jZ 2 g with act:=pa} {dN with act:=P} s1 W) (q6.putRow A3 A2 ?_) ?_
      .have this:=q6.own.row1 A6 dcA dcA (af {jZ 2 g with act:=pa} {dN with act:=P}).toArray;exact ⟨this.kind,this.game,this.table,this.fmt,this.n0,this.n1,this.d0,this.d1,this.dr,H.row1 A6 dcA dcA _⟩
      clear q6 H A6 bY;intro U q7;have B:T=({jZ 2 g with act:=pa},⟨[],decide (O≠0)⟩):=by
       rw [A7.out];simp only [YV,A9,VV Bool.false_ne_true]
      have C1:=Hd B;clear B A7;obtain ⟨k7,S,EQ⟩:=q7.cur;have d0:U.cell? ⟨C,0,none⟩=some (.slice (some ⟨E,F,none⟩) (y::r).length cap):=S.blk.cell rfl;have d1:U.cell? ⟨C,1,none⟩=some (.int .i64 (k7:Int)):=S.blk.cell rfl;have d2:U.cell? ⟨C,2,none⟩=some (.bool s1.bad):=S.blk.cell rfl;have f7:=S.blk.free;have A0:QH w X C D (some ⟨E,F,none⟩) cap (y::r) 2 g s1 T ((U.setCell ⟨C,2,none⟩ (.bool (O !=0))).setCell ⟨C,1,none⟩ (.int .i64 (n:Int))):=by
       have h8:=S.setBad (O !=0);have h9:=h8.setAt (y::r).length (VU _);rw [N] at h9;have q8:FW w X C D (some ⟨E,F,none⟩) cap (y::r) {jZ 2 g with act:=pa} {dN with act:=P} ⟨[],O !=0⟩ ((U.setCell ⟨C,2,none⟩ (.bool (O !=0))).setCell ⟨C,1,none⟩ (.int .i64 (n:Int))):=
        q7.turn d ⟨n,h9,by dsimp only;rw [<-N,Yv]⟩ (((aJ.refl (fun x=>x=C) U).one _).one _)
       refine ⟨.inl ⟨rfl,{dN with act:=P},?_⟩,q8.bD.cell rfl⟩;rw [C1.out];have e:decide (O≠0)=(O !=0):=(by simp [bne];by_cases h:O=0<;>simp [h]);dsimp only
       rw [e];exact q8
      have BY:=Hd A0;clear A0 q7 S;go_wp2_with fail;go_meet;exact BY.out
   .obtain rfl:tb=false:=(by rw [A8.out,VO A4];rfl);have t2:(I==2)=false:=(by simpa using A4);go_wp2_with fail;go_meet;exact ⟨.inr ⟨A4,q⟩,ck⟩
  case rest=>
   clear q ck;obtain ⟨hcut,ck⟩:=hcut;go_upto_if 68 with fail;go_cut [10,11,12,13,14,15,16] (fun _ _ _ _ _ _ _ wx=>Oh w X C D (some ⟨E,F,none⟩) cap (y::r) T wx)
   case first=>
    rcases hcut with ⟨rfl,hE⟩|⟨A4,q⟩
    .go_wp2_with fail;go_meet;exact hE
    by_cases C2:I=1
    .subst C2;have B:=HT.out;rw [VV dcA,Vz rfl] at B;unfold uw at B;have G:=jj wc w.heap.size C _ cap _ _ q.cur q.below.size;go_wp2_with fail;refine G.mono ?_;clear G;rintro e W1 ⟨rfl,L,M⟩;have A:=q.turn d L M;have f1:=A.bD.free;have l1:W1.cell? ⟨D,2,none⟩=some (.int .i64 0):=A.bD.cell rfl;have D4:=jC s1;generalize (bp s1).1=t at*;generalize (bp s1).2=s2 at*;have A7:=Hd B;clear B HT q L M ck;go_upto_region 15 with fail;refine ag (fun W=>FW w X C D (some ⟨E,F,none⟩) cap (y::r) {jZ 1 g with table:=t} dN s2 W) (A.put A3 A2 2 _ rfl ?_) ?_
     .have:=A.own.cell1 (i:=2) A.bD dcA dcA (.int .i64 t);exact ⟨this.kind,this.game,D4,this.fmt,this.n0,this.n1,this.d0,this.d1,this.dr,this.act⟩
     clear A f1 l1;intro W2 q;have hz:=xm s2 (Vd (gd s2) q.cur.max);have G:=qM W2 w.heap.size C _ cap _ _ q.cur q.below.size;go_wp2_with fail;refine G.mono ?_;clear G;rintro e W1 ⟨rfl,L,M⟩;have A:=q.turn d L M;have f1:=A.bD.free;have l1:W1.cell? ⟨D,3,none⟩=some (.string emN):=A.bD.cell rfl;have B:=A7.out;unfold Gs at B;generalize dK (jJ s2).1=f at*;generalize (jJ s2).2=s3 at*;have j:=Hd B;clear B A7 q L M;go_upto_region 17 with fail;refine ag (fun W=>FRdN w X C D (some ⟨E,F,none⟩) cap (y::r) T 2 (.int .i64 0) W) ⟨0,_,dN,s3,rfl,rfl,A.put A3 A2 3 _ rfl ?_,Hd j.out⟩ ?_
     .have:=A.own.cell1 (i:=3) A.bD dcA dcA (.string f);exact ⟨this.kind,this.game,this.table,hz,this.n0,this.n1,this.d0,this.d1,this.dr,this.act⟩
     clear A f1 l1 j hz D4;intro W3 B3;go_wp2_with fail;go_loopg [12,13] 2 (fun f i _ wr=>FRdN w X C D (some ⟨E,F,none⟩) cap (y::r) T f i wr)
     case atStart=>exact B3
     case round=>
      clear B3;obtain ⟨k,p,h,s,hf,rfl,q,V⟩:=hrel;have Z:=Hd hf;clear hf;by_cases J:k<2
      .have h3:k=0\/k=1:=oA;rcases h3 with rfl|rfl
       .have R:Hid (T=nT p s):=by
         have e:gk=2:=(by have:=Z.out;omega);have h:=V.out;rw [e] at h;exact Hd h
        clear V;have hz:=xm s (Vd (gd s) q.cur.max);have G:=qM wr w.heap.size C _ cap _ s q.cur q.below.size;go_wp2_with fail;refine G.mono ?_;clear G;rintro e W1 ⟨rfl,L,M⟩;have A:=q.turn d L M;have f1:=A.bD.free;have l1:W1.cell? ⟨D,4,none⟩=some (.string p.n0):=A.bD.cell rfl;have B:=R.out;unfold nT at B;generalize dK (jJ s).1=x at*;generalize (jJ s).2=s' at*;have j:=Hd B;clear B R q L M;go_wp2_with fail;go_roundg 1
        case measure=>have:=Z.out;omega
        case rel=>
         refine ⟨0+1,{p with n0:=x},h,s',oA,gnA,A.put A3 A2 4 _ rfl ?_,Hd j.out⟩;have:=A.own.cell1 (i:=4) A.bD dcA dcA (.string x);exact ⟨this.kind,this.game,this.table,this.fmt,by first|exact hz|exact this.n0,by first|exact hz|exact this.n1,this.d0,this.d1,this.dr,this.act⟩
       .have R:Hid (T=nU p s):=by
         have e:gk=1:=(by have:=Z.out;omega);have h:=V.out;rw [e] at h;exact Hd h
        clear V;have hz:=xm s (Vd (gd s) q.cur.max);have G:=qM wr w.heap.size C _ cap _ s q.cur q.below.size;go_wp2_with fail;refine G.mono ?_;clear G;rintro e W1 ⟨rfl,L,M⟩;have A:=q.turn d L M;have f1:=A.bD.free;have l1:W1.cell? ⟨D,5,none⟩=some (.string p.n1):=A.bD.cell rfl;have B:=R.out;unfold nU at B;generalize dK (jJ s).1=x at*;generalize (jJ s).2=s' at*;have j:=Hd B;clear B R q L M;go_wp2_with fail;go_roundg 0
        case measure=>have:=Z.out;omega
        case rel=>
         refine ⟨1+1,{p with n1:=x},h,s',oA,gnA,A.put A3 A2 5 _ rfl ?_,Hd j.out⟩;have:=A.own.cell1 (i:=5) A.bD dcA dcA (.string x);exact ⟨this.kind,this.game,this.table,this.fmt,by first|exact hz|exact this.n0,by first|exact hz|exact this.n1,this.d0,this.d1,this.dr,this.act⟩
      .obtain rfl:k=2:=(by have:=Z.out;omega);have D5:Hid (T=DY 2 p s):=by
        have e:gk=0:=(by have:=Z.out;omega);have h:=V.out;rw [e] at h;exact Hd h
       clear V;have B3:FRdK w X C D (some ⟨E,F,none⟩) cap (y::r) T 2 (.int .i64 0) wr:=⟨0,p,h,s,rfl,rfl,q,D5⟩;clear q D5;go_wp2_with fail;go_loopg [14,15] 2 (fun f i _ wr=>FRdK w X C D (some ⟨E,F,none⟩) cap (y::r) T f i wr)
       case atStart=>exact B3
       case round=>
        clear B3;obtain ⟨k,p,h,s,hf,rfl,q,V⟩:=hrel;have Z:=Hd hf;clear hf;by_cases J:k<2
        .have h3:k=0\/k=1:=oA;rcases h3 with rfl|rfl
         .have R:Hid (T=mu p s):=by
           have e:gk=2:=(by have:=Z.out;omega);have h:=V.out;rw [e] at h;exact Hd h
          clear V;have G:=qN wr w.heap.size C _ cap _ s q.cur q.below.size;have A1:=q.cur.lt;go_wp2_with fail;refine G.mono ?_;clear G;rintro e W1 ⟨⟨xa,xn,xc⟩,rfl,H,L,M⟩;have A:=q.turn d L M;have f1:=A.bD.free;have l1:W1.cell? ⟨D,6,none⟩=some (.slice h.d0.a h.d0.n h.d0.c):=A.bD.cell rfl;have B:=R.out;unfold mu at B;replace H:=(H.lower (B':=C+1) A1).cell1 (i:=6) A.bD dcA (.slice xa xn xc);generalize (kI s).1=x at*;generalize (kI s).2=s' at*;have j:=Hd B;clear B R q L M A1;go_wp2_with fail;go_roundg 1
          case measure=>have:=Z.out;omega
          case rel=>
           refine ⟨0+1,{p with d0:=x},{h with d0:=⟨xa,xn,xc⟩},s',oA,gnA,A.put A3 A2 6 _ rfl ?_,Hd j.out⟩;have:=A.own.cell1 (i:=6) A.bD dcA dcA (.slice xa xn xc);exact ⟨this.kind,this.game,this.table,this.fmt,this.n0,this.n1,by first|exact H|exact this.d0,by first|exact H|exact this.d1,this.dr,this.act⟩
         .have R:Hid (T=nV p s):=by
           have e:gk=1:=(by have:=Z.out;omega);have h:=V.out;rw [e] at h;exact Hd h
          clear V;have G:=qN wr w.heap.size C _ cap _ s q.cur q.below.size;have A1:=q.cur.lt;go_wp2_with fail;refine G.mono ?_;clear G;rintro e W1 ⟨⟨xa,xn,xc⟩,rfl,H,L,M⟩;have A:=q.turn d L M;have f1:=A.bD.free;have l1:W1.cell? ⟨D,7,none⟩=some (.slice h.d1.a h.d1.n h.d1.c):=A.bD.cell rfl;have B:=R.out;unfold nV at B;replace H:=(H.lower (B':=C+1) A1).cell1 (i:=7) A.bD dcA (.slice xa xn xc);generalize (kI s).1=x at*;generalize (kI s).2=s' at*;have j:=Hd B;clear B R q L M A1;go_wp2_with fail;go_roundg 0
          case measure=>have:=Z.out;omega
          case rel=>
           refine ⟨1+1,{p with d1:=x},{h with d1:=⟨xa,xn,xc⟩},s',oA,gnA,A.put A3 A2 7 _ rfl ?_,Hd j.out⟩;have:=A.own.cell1 (i:=7) A.bD dcA dcA (.slice xa xn xc);exact ⟨this.kind,this.game,this.table,this.fmt,this.n0,this.n1,by first|exact H|exact this.d0,by first|exact H|exact this.d1,this.dr,this.act⟩
        .obtain rfl:k=2:=(by have:=Z.out;omega);have R:Hid (T=nW p s):=by
          have e:gk=0:=(by have:=Z.out;omega);have h:=V.out;rw [e] at h;exact Hd h
         clear V;have G:=qN wr w.heap.size C _ cap _ s q.cur q.below.size;have A1:=q.cur.lt;go_wp2_with fail;refine G.mono ?_;clear G;rintro e W1 ⟨⟨xa,xn,xc⟩,rfl,H,L,M⟩;have A:=q.turn d L M;have f1:=A.bD.free;have l1:W1.cell? ⟨D,8,none⟩=some (.slice h.dr.a h.dr.n h.dr.c):=A.bD.cell rfl;have B:=R.out;unfold nW at B;replace H:=(H.lower (B':=C+1) A1).cell1 (i:=8) A.bD dcA (.slice xa xn xc);generalize (kI s).1=x at*;generalize (kI s).2=s' at*;have j:=Hd B;clear B R q L M A1;go_wp2_with fail;go_meet;rw [j.out];refine ⟨{h with dr:=⟨xa,xn,xc⟩},A.put A3 A2 8 _ rfl ?_⟩;have:=A.own.cell1 (i:=8) A.bD dcA dcA (.slice xa xn xc);exact ⟨this.kind,this.game,this.table,this.fmt,this.n0,this.n1,this.d0,this.d1,H,this.act⟩
    .have B:=HT.out;rw [VV A4,VV C2] at B;have A0:Oh w X C D (some ⟨E,F,none⟩) cap (y::r) T wc:=by
      rw [B];exact ⟨dN,q⟩
     have BY:=Hd A0;have t1:(I==1)=false:=(by simpa using C2);clear q B A0;go_wp2_with fail;go_meet;exact BY.out
   case rest=>
    obtain ⟨p,s⟩:=T;obtain ⟨h,q⟩:=hcut;dsimp only at q;clear HT DO ck D8 d0;obtain ⟨k,J,A5⟩:=q.cur;have l0:wc.cell? ⟨C,2,none⟩=some (.bool s.bad):=J.blk.cell rfl;have l1:wc.cell? ⟨C,1,none⟩=some (.int .i64 (k:Int)):=J.blk.cell rfl;have hl:s.b.length=n-k:=(by rw [A5,ldA,N]);have D3:k<=n:=(by rw [<-N];exact J.le);have m:=q.bX;have bD:=q.bD;have o:=q.below;have C4:=q.own;clear J q;have bad:(s.bad=true\/k<n\/iE p=false)->gB (y::r)=(kE,2):=fun e=>by
     rw [HR.out];unfold wm;dsimp only;rw [Vz (by rw [hl];rcases e with e|e|e;exact .inl e;exact .inr (.inl oA);exact .inr (.inr e))]
    have C5:¬(s.bad=true\/k<n\/iE p=false)->gB (y::r)=(p,0):=fun e=>by
     rw [HR.out];unfold wm;dsimp only;rw [VV (by rw [hl];rintro (h|h|h);exact e (.inl h);exact e (.inr (.inl oA));exact e (.inr (.inr h)))]
    have HB:=Hd bad;have E0:=Hd C5;have HS:=Hd A5;clear bad C5 A5 hl;cases hs:s.bad with
    |true=>
     rw [hs] at l0;have hr:=HB.out (.inl hs);go_wp2_with (refine ae rfl 40 aZ (.tmp 2) _ rfl rfl rfl m rfl rfl rfA ?_);refine aX rfl aZ rfl (m.setRow _) rfl rfl rfl ?_;unfold jV;rw [hr];exact ⟨dN,rfl,ep _ _,ak o B0 _⟩
    |false=>
     rw [hs] at l0;by_cases C3:k<n
     .have hr:=HB.out (.inr (.inl C3));have t1:((k:Int) !=(n:Int))=true:=soA;go_wp2_with (refine ae rfl 40 aZ (.tmp 2) _ rfl rfl rfl m rfl rfl rfA ?_);refine aX rfl aZ rfl (m.setRow _) rfl rfl rfl ?_;unfold jV;rw [hr];exact ⟨dN,rfl,ep _ _,ak o B0 _⟩
     .have t1:((k:Int) !=(n:Int))=false:=soA;have E1:=Hd C3;clear C3 D3;have G:=zg p h wc ((C4.lower (Vd d (YP C))).at);rw [aD] at G;go_wp2_with (refine kx rfA 40 aZ (.tmp 5) rfl rfl bD rfl ?_);refine G.mono ?_;clear G;rintro e W3 ⟨rfl,CW⟩;have B4:=m.old CW;have E2:=bD.old CW;have C6:=aa o CW;cases C7:iE p with
      |false=>
       have hr:=HB.out (.inr (.inr C7));go_wp2_with (refine ae rfl 40 aZ (.tmp 2) _ rfl rfl rfl B4 rfl rfl rfA ?_);refine aX rfl aZ rfl (B4.setRow _) rfl rfl rfl ?_;unfold jV;rw [hr];exact ⟨dN,rfl,ep _ _,ak C6 B0 _⟩
      |true=>
       have hr:=E0.out (by rw [hs,C7];rintro (h|h|h);cases h;exact E1.out h;cases h);go_wp2_with (first|refine ap rfl 40 aZ (.tmp 5) rfl rfl E2 rfl ?_|refine ae rfl 40 aZ (.tmp 2) _ rfl rfl rfl B4 rfl rfl rfA ?_);refine aX rfl aZ rfl (B4.setRow _) rfl rfl rfl ?_;unfold jV;rw [hr];exact ⟨h,rfl,((C4.old CW).row1 B4 dcA dcA _).lower (Vd d (YP C)),ak C6 B0 _⟩
theorem fY.cellR {w:As} {a:Lt} {n c:Nat} {l:List Int} (h:fY w a n c l) (k:Nat) (A:k<l.length):∃b o,a=some ⟨b,o,none⟩/\w.cell? ⟨b,o+k,none⟩=some (.int .i64 l[k]):=by
 obtain ⟨b,o,e,B⟩:=h.1 k (by simpa using A);exact ⟨b,o,e,by simpa using B⟩
def BC (w:As) (l m:List Int) (n:Nat) (f:Nat) (i:Value) (w':As):Prop:=
 ∃k:Nat,k+f=n/\i= .int .i64 (k:Int)/\l.take k=m.take k/\Below w.heap.size w w'
theorem jt (a b:Lt) (n c F c':Nat) (l m:List Int) (w:As) (I:fY w a n c l) (T:fY w b F c' m):
  Calls prog 96 #[.slice a n c,.slice b F c'] w fun e w'=>e= .returned (.bool (decide (l=m)))/\Below w.heap.size w w':=by
 have J:=Hd I.2.1;have L:=Hd T.2.1;have A0:=I.2.2.2.2.1;by_cases N:n=F
 .subst N;go_enter func96,ntmps96;go_wp2_with fail;go_loopg [5] n (BC w l m n)
  case atStart=>exact ⟨0,VN _,rfl,rfl,VW _ _⟩
  case round=>
   obtain ⟨k,hk,rfl,O,A⟩:=hrel;have U:=Hd O;clear O;by_cases P:k<n
   .have t0:decide ((k:Int)<(n:Int))=true:=soA;have R:k<l.length:=(by rw [J.out];exact P);have S:k<m.length:=(by rw [L.out];exact P);obtain ⟨Z,d,rfl,G⟩:=fY.cellR I k R;obtain ⟨b2,f,rfl,H⟩:=fY.cellR T k S;have L1:∀W,Old wr.drew W->W.cell? ⟨Z,d+k,none⟩=some (.int .i64 l[k]):=fun W h=>by
     rw [(aa (aa A (VW _ _).drew) h).cell (Vx w _ G)];exact G
    have L2:∀W,Old wr.drew W->W.cell? ⟨b2,f+k,none⟩=some (.int .i64 m[k]):=fun W h=>by
     rw [(aa (aa A (VW _ _).drew) h).cell (Vx w _ H)];exact H
    clear G H;have V:=Vj R;have Y:=Vj S;have g:=Hd V;have j:=Hd Y;have M:l[k]≠m[k]->l≠m:=fun h e=>h (by subst e;rfl);have o:=Hd M;clear V Y M;generalize l[k]=x at*;generalize m[k]=y at*;by_cases B:x=y
    .subst B;go_wp2_with fail;refine aB (0::1::2::3::4::5::6::7::8::[]) krA krA cdA ?_
     repeat refine lxA ?_
     refine bJ ?_;go_wp2_with fail;go_roundg (gk-1)
     case measure=>omega
     case rel=>exact ⟨k+1,oA,gnA,by rw [g.out,j.out,U.out],aa A (VW _ _).drew⟩
    .have t1:(x !=y)=true:=(by simpa using B);have E:=o.out B;have q:=Hd E;have HX:=Hd B;clear E B;go_wp2_with fail;refine aB (0::1::2::3::4::5::6::7::8::[]) krA krA cdA ?_
     repeat refine lxA ?_
     refine bJ ?_;go_wp2_with fail;go_ret;exact ⟨by rw [VO q.out];rfl,aa A (VW _ _).drew⟩
   .have t0:decide ((k:Int)<(n:Int))=false:=soA;go_wp2_with fail;go_ret;have r:l.take k=l:=VZ (by rw [J.out];omega);have t:m.take k=m:=VZ (by rw [L.out];omega);have:=U.out;rw [r,t] at this;exact ⟨by rw [VK this];rfl,A⟩
 .have E:l≠m:=fun e=>N (by rw [<-J.out,<-L.out,e]);have t0:((n:Int) !=(F:Int))=true:=soA;go_enter func96,ntmps96;go_wp2_with fail;go_ret;exact ⟨by rw [VO E];rfl,VW _ _⟩
theorem PairsAt.elemR {w:As} {s:Sl} {l:List ci} (h:jW w s l) (k:Nat) (A:k<l.length):
  ∃b o,s.a=some ⟨b,o,none⟩/\b<w.heap.size/\∀j (B:j<l[k].cells.length),w.cell? ⟨b,o+k*2+j,none⟩=some l[k].cells[j]:=
 av.elem (g:=ci.cells) (sz:=2) (fun _=>rfl) h.1 oA k A
def SmA (w:As) (X n:Nat) (cs ds:AS) (l m:List ci) (f:Nat) (i:Value) (wr:As):Prop:=
 ∃k:Nat,k+f=n/\i= .int .i64 (k:Int)/\l.take k=m.take k/\Blk wr X cs 38/\Blk wr (X+1) ds 38/\Below w.heap.size w wr
theorem Ar (p q:bF) (h g:dy) (w:As) (hp:fb w p h) (hq:fb w q g):
  Calls prog 97 #[bK p h,bK q g] w fun e w'=>e= .returned (.bool (decide (p=q)))/\Below w.heap.size w w':=by
 obtain ⟨op,L,J,target,f,F⟩:=p;obtain ⟨S,P,O,N,d,G⟩:=q;obtain ⟨⟨Z,Y,b⟩,⟨pa,E,pc⟩⟩:=h;obtain ⟨⟨m,n,o⟩,⟨qa,T,r⟩⟩:=g;have A9:mC w ⟨Z,Y,b⟩ f:=hp.ids;have BY:mC w ⟨m,n,o⟩ d:=hq.ids;have A1:jW w ⟨pa,E,pc⟩ F:=hp.pairs;have A5:jW w ⟨qa,T,r⟩ G:=hq.pairs;clear hp hq;obtain ⟨R,M⟩:=At (decide ((⟨op,L,J,target,f,F⟩:bF)=⟨S,P,O,N,d,G⟩));rw [<-M];have e0:∃c,(op !=S)=c/\(c=true->R=false):=⟨_,rfl,fun h=>by rw [M];refine VO fun e=> ?_;cases e;simp at h⟩;have e1:∃c,(L !=P)=c/\(c=true->R=false):=⟨_,rfl,fun h=>by rw [M];refine VO fun e=> ?_;cases e;simp at h⟩;have e2:∃c,(J !=O)=c/\(c=true->R=false):=⟨_,rfl,fun h=>by rw [M];refine VO fun e=> ?_;cases e;simp at h⟩;have e3:∃c,(target !=N)=c/\(c=true->R=false):=⟨_,rfl,fun h=>by rw [M];refine VO fun e=> ?_;cases e;simp at h⟩;have e4:∃c,decide (f=d)=c/\(c=false->R=false):=⟨_,rfl,fun h=>by rw [M];refine VO fun e=> ?_;cases e;simp at h⟩;have e5:∃c,((E:Int) !=(T:Int))=c/\(c=true->R=false):=⟨_,rfl,fun h=>by
  rw [M];refine VO fun e=> ?_;cases e;have k1:F.length=E:=A1.2.1;have k2:F.length=T:=A5.2.1;rw [<-k1,<-k2] at h;simp at h⟩
 have e6:E=T->op=S->L=P->J=O->target=N->f=d->(F=G->R=true)/\(F≠G->R=false):=fun _ h1 h2 h3 h4 h5=>by
  subst h1 h2 h3 h4 h5;rw [M];exact ⟨fun e=>by subst e;simp,fun h=>VO fun e=>h (by cases e;rfl)⟩
 clear M;obtain ⟨c0,f0,n0⟩:=e0;obtain ⟨c1,f1,n1⟩:=e1;obtain ⟨c2,f2,n2⟩:=e2;obtain ⟨c3,f3,n3⟩:=e3;obtain ⟨c4,f4,n4⟩:=e4;obtain ⟨c5,f5,n5⟩:=e5;have N0:=Hd n0;have N1:=Hd n1;have N2:=Hd n2;have N3:=Hd n3;have N4:=Hd n4;have N5:=Hd n5;have E6:=Hd e6;have F4:=Hd f4;clear n0 n1 n2 n3 n4 n5 e6 f4;unfold bK;dsimp only;go_enter func97,ntmps97;go_upto_region 1 with fail;have I:Below w.heap.size w ((w.alloc (.cells #[.int .i8 op,.int .i64 L,.int .i64 J,.int .i64 target,.slice Z Y b,.slice pa E pc] 38)).alloc (.cells #[.int .i8 S,.int .i64 P,.int .i64 O,.int .i64 N,.slice m n o,.slice qa T r] 38)):=cL;have hz:=((VW _ w).alloc (VU _) (.cells #[.int .i8 op,.int .i64 L,.int .i64 J,.int .i64 target,.slice Z Y b,.slice pa E pc] 38)).size;obtain ⟨X,t⟩:=At w.heap.size;refine ag (fun W=>Blk W X #[.int .i8 op,.int .i64 L,.int .i64 J,.int .i64 target,.slice Z Y b,.slice pa E pc] 38/\Blk W (X+1) #[.int .i8 S,.int .i64 P,.int .i64 O,.int .i64 N,.slice m n o,.slice qa T r] 38/\Below w.heap.size w W) ⟨by rw [t];exact Blk.new2 _ _ _ _,by rw [t];exact Blk.new2' _ _ _ _,I⟩ ?_;clear I hz;rw [<-t];have HX:=Hd t;clear t;rintro W1 ⟨U,V,I⟩;rw [HX.out] at I;have A:=U.rule;have B:=V.rule;go_wp2_with fail
 any_goals first|(have q:=N0.out asA;go_ret;exact ⟨by rw [q];rfl,I⟩)|(have q:=N1.out asA;go_ret;exact ⟨by rw [q];rfl,I⟩)|(have q:=N2.out asA;go_ret;exact ⟨by rw [q];rfl,I⟩)|(have q:=N3.out asA;go_ret;exact ⟨by rw [q];rfl,I⟩)
 refine (jt _ _ _ _ _ _ _ _ _ (A9.old I) (BY.old I)).mono ?_;rintro e W2 ⟨rfl,A3⟩;rw [F4.out];have A6:=U.old A3;have A7:=V.old A3;have A0:=aa I A3;have A2:=A6.rule;have B2:=A7.rule;clear A B U V I A3 A9 BY;go_wp2_with fail
 any_goals first|(have q:=N4.out (VY.2 asA);go_ret;exact ⟨by rw [q];rfl,A0⟩)|(have q:=N5.out asA;go_ret;exact ⟨by rw [q];rfl,A0⟩)
 have k0:¬c0=true:=asA;have k1:¬c1=true:=asA;have k2:¬c2=true:=asA;have k3:¬c3=true:=asA;have k4:c4=true:=asA;have k5:c5=false:=asA;have q0:op=S:=(by rw [VY.2 k0] at f0;simpa using f0);have q1:L=P:=(by rw [VY.2 k1] at f1;simpa using f1);have q2:J=O:=(by rw [VY.2 k2] at f2;simpa using f2);have q3:target=N:=(by rw [VY.2 k3] at f3;simpa using f3);have q4:f=d:=(by have:=F4.out;rw [k4] at this;simpa using this);have q5:E=T:=by
  rw [k5] at f5;have:(E:Int)=(T:Int):=(by simpa using f5);omega
 obtain ⟨e1,e2⟩:=E6.out q5 q0 q1 q2 q3 q4;have E1:=Hd e1;have E2:=Hd e2;subst q5;have HL:=Hd A1.2.1;have HM:=Hd A5.2.1;have CW:E<=8796093021952:=A1.2.2.2.2.1;subst k4 k5;clear k0 k1 k2 k3 f0 f1 f2 f3 f5 N0 N1 N2 N3 N4 N5 E6 F4 e1 e2 q0 q1 q2 q3 q4 A2 B2;go_loopg [5] E (SmA w X E #[.int .i8 op,.int .i64 L,.int .i64 J,.int .i64 target,.slice Z Y b,.slice pa E pc] #[.int .i8 S,.int .i64 P,.int .i64 O,.int .i64 N,.slice m n o,.slice qa E r] F G)
 case atStart=>exact ⟨0,oA,rfl,rfl,A6,A7,A0⟩
 case round=>
  clear A6 A7 A0;obtain ⟨k,hf,rfl,B0,U,V,l⟩:=hrel;have HF:=Hd hf;have HQ:=Hd B0;clear hf B0;have A:=U.rule;have B:=V.rule;by_cases C0:k<E
  .have t0:decide ((k:Int)<(E:Int))=true:=soA;have B1:k<F.length:=(by have:=HL.out;simp at this;omega);have B3:k<G.length:=(by have:=HM.out;simp at this;omega);obtain ⟨b1,o1,B4,B9,B5⟩:=PairsAt.elemR (A1.old l) k B1;obtain ⟨b2,o2,B6,CK,B7⟩:=PairsAt.elemR (A5.old l) k B3;dsimp only at B4 B6;subst B4 B6;have L1:=Hd (show ∀W,Old wr.drew W->∀j (hj:j<F[k].cells.length),W.cell? ⟨b1,o1+k*2+j,none⟩=some F[k].cells[j] from fun W h j hj=>by
    rw [(aa (VW _ _).drew h).cell (show b1<wr.heap.size from B9)];exact B5 j hj)
   have L2:=Hd (show ∀W,Old wr.drew W->∀j (hj:j<G[k].cells.length),W.cell? ⟨b2,o2+k*2+j,none⟩=some G[k].cells[j] from fun W h j hj=>by
    rw [(aa (VW _ _).drew h).cell (show b2<wr.heap.size from CK)];exact B7 j hj)
   have HX:=Hd (show F.take (k+1)=G.take (k+1)↔F[k]=G[k] by
    rw [Vj B1,Vj B3,HQ.out];exact ⟨fun h=>(List.cons.inj (List.append_cancel_left h)).1,fun h=>by rw [h]⟩)
   have HD:=Hd (show ¬F[k]=G[k]->F≠G from fun A8 e=>A8 (by subst e;rfl));have LA:∀W,Old wr.drew W->∀i,W.cell? ⟨X,i,none⟩= #[.int .i8 op,.int .i64 L,.int .i64 J,.int .i64 target,.slice Z Y b,Value.slice (some ⟨b1,o1,none⟩) E pc][i]? :=fun W H=>(U.drew.old H).rule;have LB:∀W,Old wr.drew W->∀i,W.cell? ⟨X+1,i,none⟩= #[.int .i8 S,.int .i64 P,.int .i64 O,.int .i64 N,.slice m n o,Value.slice (some ⟨b2,o2,none⟩) E r][i]? :=fun W H=>(V.drew.old H).rule;clear B5 B7;generalize F[k]=x at*;generalize G[k]=y at*;by_cases A4:x=y
   .have HXe:=Hd (HX.out.2 A4);clear HX HD;subst A4;go_upto_region 6 with fail;refine aB (0::1::2::3::4::5::6::7::8::9::10::[]) krA krA cdA ?_
    repeat refine lxA ?_
    refine cR (v:=kf x) rfl rfl rfA (fun W H=>aI 157 yK (.tmp 59) rfl rfl rfl (L1.out W H) rfl) ?_;simp only [Act.put,sTA,List.set]
    repeat refine lxA ?_
    refine cR (v:=kf x) rfl rfl rfA (fun W H=>aI 157 yK (.tmp 64) rfl rfl rfl (L2.out W H) rfl) ?_;simp only [Act.put,sTA,List.set];refine cR (v:= .bool false) rfl rfl rfA (fun W H=>uA .neq 157 (.tmp 60) (.tmp 65) rfl rfl rfl krA ((vR x x W).trans skA)) ?_;simp only [Act.put,sTA,List.set];refine bJ ?_;clear LA LB;go_wp2_with fail;go_roundg (gk-1)
    case measure=>have:=HF.out;omega
    case rel=>exact ⟨k+1,by have:=HF.out;omega,gnA,HXe.out,U.drew,V.drew,l.drew⟩
   .have A8:=Hd (HD.out A4);go_upto_region 6 with fail;refine aB (0::1::2::3::4::5::6::7::8::9::10::[]) krA krA cdA ?_
    repeat refine lxA ?_
    refine cR (v:=kf x) rfl rfl rfA (fun W H=>aI 157 yK (.tmp 59) rfl rfl rfl (L1.out W H) rfl) ?_;simp only [Act.put,sTA,List.set]
    repeat refine lxA ?_
    refine cR (v:=kf y) rfl rfl rfA (fun W H=>aI 157 yK (.tmp 64) rfl rfl rfl (L2.out W H) rfl) ?_;simp only [Act.put,sTA,List.set];refine cR (v:= .bool true) rfl rfl rfA (fun W H=>uA .neq 157 (.tmp 60) (.tmp 65) rfl rfl rfl krA ((vR x y W).trans (by simp [A4]))) ?_;simp only [Act.put,sTA,List.set];refine bJ ?_;clear LA LB;go_wp2_with fail;go_ret;exact ⟨by rw [E2.out A8.out];rfl,l.drew⟩
  .have t0:decide ((k:Int)<(E:Int))=false:=soA;have he:=Hd (show F=G by
    have:=HQ.out;have h1:=HL.out;have h2:=HM.out;simp only at h1 h2;rwa [VZ oA,VZ oA] at this)
   go_wp2_with fail;go_ret;exact ⟨by rw [E1.out he.out];rfl,l⟩
theorem Cy (p q:ao) (h g:aY) (w:As) (N:dp w p h) (O:dp w q g):
  Calls prog 34 #[dG p h,dG q g] w fun e w'=>e= .returned (.bool (Fr p q))/\Below w.heap.size w w':=by
 obtain ⟨R,I⟩:=At (Fr p q);rw [<-I];rw [yY] at I;have F:∀(c:Bool) (P:Prop) [Decidable P],decide P=c->(p=q->P)->(c=false->R=false):=fun c P _ J S T=>by
  rw [I];refine VO fun e=> ?_;rw [T] at J;exact absurd (S e) (ZY J)
 have e0:∃c,(p.kind==q.kind)=c/\(c=false->R=false):=⟨_,rfl,F _ (p.kind=q.kind) rfl fun e=>by rw [e]⟩;have e1:∃c,(p.game==q.game)=c/\(c=false->R=false):=⟨_,rfl,F _ (p.game=q.game) rfl fun e=>by rw [e]⟩;have e2:∃c,(p.table==q.table)=c/\(c=false->R=false):=⟨_,rfl,F _ (p.table=q.table) rfl fun e=>by rw [e]⟩;have e3:∃c,(p.fmt.toList==q.fmt.toList)=c/\(c=false->R=false):=⟨_,rfl,F _ (p.fmt=q.fmt) (mj _ _).symm fun e=>by rw [e]⟩;have e4:∃c,(p.n0.toList==q.n0.toList&&p.n1.toList==q.n1.toList)=c/\(c=false->R=false):=⟨_,rfl,F _ (p.n0=q.n0/\p.n1=q.n1) (by rw [mj,mj,Bool.decide_and]) fun e=>by rw [e];exact ⟨rfl,rfl⟩⟩;have e5:∃c,decide (p.d0=q.d0)=c/\(c=false->R=false):=⟨_,rfl,F _ (p.d0=q.d0) rfl fun e=>by rw [e]⟩;have e6:∃c,decide (p.d1=q.d1)=c/\(c=false->R=false):=⟨_,rfl,F _ (p.d1=q.d1) rfl fun e=>by rw [e]⟩;have e7:∃c,decide (p.dr=q.dr)=c/\(c=false->R=false):=⟨_,rfl,F _ (p.dr=q.dr) rfl fun e=>by rw [e]⟩;have o:p.kind=q.kind->p.game=q.game->p.table=q.table->p.fmt=q.fmt->p.n0=q.n0/\p.n1=q.n1->p.d0=q.d0->p.d1=q.d1->p.dr=q.dr->R=decide (p.act=q.act):=by
  intro t J S T U y h6 h7;rw [I];obtain ⟨a0,a1,a2,a3,a4,a5,a6,a7,a8,a9⟩:=p;obtain ⟨b0,b1,b2,b3,b4,b5,b6,b7,b8,b9⟩:=q;obtain ⟨U,r⟩:=U;dsimp only at t J S T U r y h6 h7⊢;subst t J S T U r y h6 h7;rw [YY];simp
 clear I F;obtain ⟨c0,f0,n0⟩:=e0;obtain ⟨c1,f1,n1⟩:=e1;obtain ⟨c2,f2,n2⟩:=e2;obtain ⟨c3,f3,n3⟩:=e3;obtain ⟨c4,f4,n4⟩:=e4;obtain ⟨c5,f5,n5⟩:=e5;obtain ⟨c6,f6,n6⟩:=e6;obtain ⟨c7,f7,n7⟩:=e7;have tw:=fun W=>Ib p.n0 p.n1 q.n0 q.n1 W;simp only [f4] at tw;have V:=Hd n0;have Y:=Hd n1;have Z:=Hd n2;have b:=Hd n3;have d:=Hd n4;have f:=Hd n5;have j:=Hd n6;have l:=Hd n7;have F4:=Hd f4;have F5:=Hd f5;have F6:=Hd f6;have F7:=Hd f7;have A0:=Hd o;clear n0 n1 n2 n3 n4 n5 n6 n7 f4 f5 f6 f7 o;unfold dG;go_enter func34,ntmps34;go_wp2_with fail
 any_goals first|(have q:=V.out (VY.2 asA);go_ret;exact ⟨by rw [q];rfl,cL⟩)|(have q:=Y.out (VY.2 asA);go_ret;exact ⟨by rw [q];rfl,cL⟩)|(have q:=Z.out (VY.2 asA);go_ret;exact ⟨by rw [q];rfl,cL⟩)|(have q:=b.out (VY.2 asA);go_ret;exact ⟨by rw [q];rfl,cL⟩)|(have q:=d.out (VY.2 asA);go_ret;exact ⟨by rw [q];rfl,cL⟩)|(have q:=f.out (VY.2 asA);go_ret;exact ⟨by rw [q];rfl,cL⟩)|(have q:=j.out (VY.2 asA);go_ret;exact ⟨by rw [q];rfl,cL⟩)|(have q:=l.out (VY.2 asA);go_ret;exact ⟨by rw [q];rfl,cL⟩)
 refine (jt _ _ _ _ _ _ _ _ _ (N.d0.old cL) (O.d0.old cL)).mono ?_;rintro e W2 ⟨rfl,n⟩;rw [F5.out];have G:=(Blk.new2 _ _ _ _).old n;have H:=(Blk.new2' _ _ _ _).old n;have E:Below w.heap.size w W2:=cL;obtain ⟨X,hX⟩:=At w.heap.size;rw [<-hX] at G H⊢;clear n hX;have A:=G.rule;have B:=H.rule;go_wp2_with fail
 any_goals first|(have q:=V.out (VY.2 asA);go_ret;exact ⟨by rw [q];rfl,E⟩)|(have q:=Y.out (VY.2 asA);go_ret;exact ⟨by rw [q];rfl,E⟩)|(have q:=Z.out (VY.2 asA);go_ret;exact ⟨by rw [q];rfl,E⟩)|(have q:=b.out (VY.2 asA);go_ret;exact ⟨by rw [q];rfl,E⟩)|(have q:=d.out (VY.2 asA);go_ret;exact ⟨by rw [q];rfl,E⟩)|(have q:=f.out (VY.2 asA);go_ret;exact ⟨by rw [q];rfl,E⟩)|(have q:=j.out (VY.2 asA);go_ret;exact ⟨by rw [q];rfl,E⟩)|(have q:=l.out (VY.2 asA);go_ret;exact ⟨by rw [q];rfl,E⟩)
 refine (jt _ _ _ _ _ _ _ _ _ (N.d1.old E) (O.d1.old E)).mono ?_;rintro e W3 ⟨rfl,L⟩;rw [F6.out];replace G:=G.old L;replace H:=H.old L;replace E:=aa E L;clear A B L;have A:=G.rule;have B:=H.rule;go_wp2_with fail
 any_goals first|(have q:=V.out (VY.2 asA);go_ret;exact ⟨by rw [q];rfl,E⟩)|(have q:=Y.out (VY.2 asA);go_ret;exact ⟨by rw [q];rfl,E⟩)|(have q:=Z.out (VY.2 asA);go_ret;exact ⟨by rw [q];rfl,E⟩)|(have q:=b.out (VY.2 asA);go_ret;exact ⟨by rw [q];rfl,E⟩)|(have q:=d.out (VY.2 asA);go_ret;exact ⟨by rw [q];rfl,E⟩)|(have q:=f.out (VY.2 asA);go_ret;exact ⟨by rw [q];rfl,E⟩)|(have q:=j.out (VY.2 asA);go_ret;exact ⟨by rw [q];rfl,E⟩)|(have q:=l.out (VY.2 asA);go_ret;exact ⟨by rw [q];rfl,E⟩)
 refine (jt _ _ _ _ _ _ _ _ _ (N.dr.old E) (O.dr.old E)).mono ?_;rintro e W4 ⟨rfl,M⟩;rw [F7.out];replace G:=G.old M;replace H:=H.old M;replace E:=aa E M;clear A B M;have A:=G.rule;have B:=H.rule;go_wp2_with fail
 any_goals first|(have q:=V.out (VY.2 asA);go_ret;exact ⟨by rw [q];rfl,E⟩)|(have q:=Y.out (VY.2 asA);go_ret;exact ⟨by rw [q];rfl,E⟩)|(have q:=Z.out (VY.2 asA);go_ret;exact ⟨by rw [q];rfl,E⟩)|(have q:=b.out (VY.2 asA);go_ret;exact ⟨by rw [q];rfl,E⟩)|(have q:=d.out (VY.2 asA);go_ret;exact ⟨by rw [q];rfl,E⟩)|(have q:=f.out (VY.2 asA);go_ret;exact ⟨by rw [q];rfl,E⟩)|(have q:=j.out (VY.2 asA);go_ret;exact ⟨by rw [q];rfl,E⟩)|(have q:=l.out (VY.2 asA);go_ret;exact ⟨by rw [q];rfl,E⟩)
 refine (Ar p.act q.act h.act g.act _ (N.act.old E) (O.act.old E)).mono ?_;rintro e W5 ⟨rfl,A1⟩;replace E:=aa E A1;have k0:c0=true:=asA;have k1:c1=true:=asA;have k2:c2=true:=asA;have k3:c3=true:=asA;have k4:c4=true:=asA;have k5:c5=true:=asA;have k6:c6=true:=asA;have k7:c7=true:=asA;have q4:p.n0=q.n0/\p.n1=q.n1:=by
  have:=F4.out;rw [k4,mj,mj] at this;simpa using this
 have m:=A0.out (by rw [k0] at f0;simpa using f0) (by rw [k1] at f1;simpa using f1) (by rw [k2] at f2;simpa using f2) (by rw [k3,mj] at f3;simpa using f3) q4 (by have:=F5.out;rw [k5] at this;simpa using this) (by have:=F6.out;rw [k6] at this;simpa using this) (by have:=F7.out;rw [k7] at this;simpa using this);rw [<-m];have A2:=Hd m;clear m k0 k1 k2 k3 k4 k5 k6 k7 q4 f0 f1 f2 f3 A B;go_wp2_with fail;go_ret;exact ⟨rfl,E⟩
end
end Go.Proofs.YtioigihakjlopaaGreat

import Derived.Test.YtioigihakjlopaaGreatVR01
namespace Go.Proofs.YtioigihakjlopaaGreat
open Go.Proofs.Tryz
set_option linter.unusedVariables false
set_option linter.unusedSimpArgs false
set_option maxHeartbeats 16000000
set_option maxRecDepth 100000
section
open Go.RowKit
def pwB (third:Bool) (y x:Nat):Bool:=if third then decide (y*y*y<=x*79228162514264337593543950336) else decide (y*y<=x*18446744073709551616)
def mR (l:List Nat) (x:Nat):List Nat:=if l.all (fun p=>x%p !=0) then l++ [x] else l
def ps:Nat->List Nat
 |0=> []
 |k+1=>mR (ps k) (k+2)
theorem tW (l:List Nat) (x:Nat):l<+:mR l x:=by
 unfold mR;split
 .exact List.prefix_append _ _
 .exact List.prefix_refl _
theorem vz (k:Nat):∀j,ps k<+:ps (k+j)
 |0=>List.prefix_refl _
 |j+1=>(vz k j).trans (tW _ _)
theorem Js {k m:Nat} (h:k<=m):ps k<+:ps m:=by
 have:=vz k (m-k);rwa [Nat.add_sub_cancel' h] at this
theorem xK (k:Nat):(ps (k+1)).length<=(ps k).length+1:=by
 rw [ps,mR];split<;>simp
theorem Hk (k:Nat):∀p∈ps k,2<=p/\p<k+2:=by
 induction k with
 |zero=>intro p h;simp [ps] at h
 |succ k ih=>
  intro p h;rw [ps,mR] at h;split at h
  .rcases Ve.1 h with h|h
   .have:=ih p h;omega
   .simp at h;omega
  .have:=ih p h;omega
theorem Hl (k:Nat):(ps k).length<=k:=by
 induction k with
 |zero=>simp [ps]
 |succ k ih=>have:=xK k;omega
def qt:List Nat:=[2,3,5,7,11,13,17,19,23,29,31,37,41,43,47,53,59,61,67,71,73,79,83,89,97,101,103,107,109,113,127,131,137,139,149,151,157,163,167,173,179,181,191,193,197,199,211,223,227,229,233,239,241,251,257,263,269,271,277,281,283,293,307,311]
def ye:Nat->Nat->List Nat->Bool
 |0,_,l=>l==qt
 |n+1,k,l=>ye n (k+1) (mR l (k+2))
theorem oB:∀(n k:Nat),ye n k (ps k)=true->ps (k+n)=qt
 |0,k,h=>by simpa [ye] using h
 |n+1,k,h=>by
  have:=oB n (k+1) h;rwa [show k+1+n=k+(n+1) by omega] at this
theorem CT:ps 310=qt:=oB 310 0 dkA
theorem Mk {k:Nat} (h:(ps k).length<64):k<310:=by
 rcases YX k 310 with A|A
 .exact A
 .have:=(Js A).length_le;rw [CT] at this;have e:qt.length=64:=rfl;omega
theorem nL {k n:Nat} (h:(ps k).length=n) (C:n<=64):ps k=qt.take n:=by
 rcases YX k 311 with A|A
 .have:=Js (show k<=310 by omega);rw [CT] at this;rw [<-h];exact List.prefix_iff_eq_take.1 this
 .have:=Js (show 310<=k by omega);rw [CT] at this;have e:qt.length=64:=rfl;have D:=this.length_le;have B:qt=ps k:=this.eq_of_length oA;rw [<-B,show n=64 by omega];rfl
def bs (third:Bool) (x:Nat):Nat->Nat->Nat->Nat
 |0,lo,_=>lo
 |f+1,lo,hi=>if 1<hi-lo then (if pwB third (lo+(hi-lo)/2) x then bs third x f (lo+(hi-lo)/2) hi else bs third x f lo (lo+(hi-lo)/2)) else lo
def rt (third:Bool) (x:Nat):Nat:=bs third x 64 0 85899345920
theorem KI (C:Bool) (x A B:Nat) (h:¬1<B-A):∀f,bs C x f A B=A
 |0=>rfl
 |f+1=>by rw [bs,VV h]
def Ft (third:Bool) (l:List Nat):List (BitVec 32):=l.map fun x=>BitVec.ofNat 32 (rt third x)
def kLit:List (BitVec 32):=Ft true qt
def hLit:List (BitVec 32):=Ft false (qt.take 8)
def Ll:List (BitVec 32):=[0x428a2f98#32,0x71374491#32,0xb5c0fbcf#32,0xe9b5dba5#32,0x3956c25b#32,0x59f111f1#32,0x923f82a4#32,0xab1c5ed5#32,0xd807aa98#32,0x12835b01#32,0x243185be#32,0x550c7dc3#32,0x72be5d74#32,0x80deb1fe#32,0x9bdc06a7#32,0xc19bf174#32,0xe49b69c1#32,0xefbe4786#32,0x0fc19dc6#32,0x240ca1cc#32,0x2de92c6f#32,0x4a7484aa#32,0x5cb0a9dc#32,0x76f988da#32,0x983e5152#32,0xa831c66d#32,0xb00327c8#32,0xbf597fc7#32,0xc6e00bf3#32,0xd5a79147#32,0x06ca6351#32,0x14292967#32,0x27b70a85#32,0x2e1b2138#32,0x4d2c6dfc#32,0x53380d13#32,0x650a7354#32,0x766a0abb#32,0x81c2c92e#32,0x92722c85#32,0xa2bfe8a1#32,0xa81a664b#32,0xc24b8b70#32,0xc76c51a3#32,0xd192e819#32,0xd6990624#32,0xf40e3585#32,0x106aa070#32,0x19a4c116#32,0x1e376c08#32,0x2748774c#32,0x34b0bcb5#32,0x391c0cb3#32,0x4ed8aa4a#32,0x5b9cca4f#32,0x682e6ff3#32,0x748f82ee#32,0x78a5636f#32,0x84c87814#32,0x8cc70208#32,0x90befffa#32,0xa4506ceb#32,0xbef9a3f7#32,0xc67178f2#32]
def Lm:List (BitVec 32):=[0x6a09e667#32,0xbb67ae85#32,0x3c6ef372#32,0xa54ff53a#32,0x510e527f#32,0x9b05688c#32,0x1f83d9ab#32,0x5be0cd19#32]
theorem JY:kLit=Ll:=by decide+kernel
theorem Ki:hLit=Lm:=by decide+kernel
theorem PV {k:Nat} (h:(ps k).length=64):Ft true (ps k)=Ll:=by rw [nL h oA,<-JY];rfl
theorem PW {k:Nat} (h:(ps k).length=8):Ft false (ps k)=Lm:=by rw [nL h oA,<-Ki];rfl
open Go.RowKit
theorem yx (x:Nat) (h:x<2^64):bits .and .u64 (x:Int) 4294967295=((x%4294967296:Nat):Int):=by
 rw [wJ];have e:(BitVec.ofInt 64 (x:Int)&&&BitVec.ofInt 64 4294967295).toNat=x%4294967296:=by
  rw [BitVec.toNat_and];have A:(BitVec.ofInt 64 (x:Int)).toNat=x:=(by rw [XM,Wi];omega);have B:(BitVec.ofInt 64 4294967295).toNat=2^32-1:=dcA;rw [A,B,Yw]
 show ((BitVec.toNat _:Nat):Int)=_;rw [e]
theorem eW (x:Nat):IntKind.u64.wrap (x:Int)=((x%2^64:Nat):Int):=by
 simp [IntKind.wrap,IntKind.bits,IntKind.signed]
theorem gy (x y:Nat):IntKind.u64.wrap ((x:Int)*(y:Int))=((x*y%2^64:Nat):Int):=by
 rw [<-eW];norm_cast
theorem vU (A C B D P:Nat):(A*P+C)*(B*P+D)=A*B*(P*P)+(A*D+C*B)*P+C*D:=by
 simp only [XV,Nat.mul_add];have E:A*P*(B*P)=A*B*(P*P):=Nat.mul_mul_mul_comm _ _ _ _;have F:A*P*D=A*D*P:=(by rw [Nat.mul_right_comm]);have G:C*(B*P)=C*B*P:=(by rw [Nat.mul_assoc]);omega
theorem qF (x y:Nat) (w:As) (hx:x<2^64) (j:y<2^64):
  Calls prog 210 #[.int .u64 (x:Int),.int .u64 (y:Int)] w fun e w'=>e= .returned (.tuple #[.int .u64 ((x*y/2^64:Nat):Int),.int .u64 ((x*y%2^64:Nat):Int)])/\w=w':=by
 obtain ⟨A,U⟩:=At (x/4294967296);obtain ⟨C,G⟩:=At (x%4294967296);obtain ⟨B,V⟩:=At (y/4294967296);obtain ⟨D,H⟩:=At (y%4294967296);have bd:∀p q:Nat,p<=4294967295->q<=4294967295->p*q<=18446744065119617025:=fun p q l m=>XF l m;have W:=bd C D oA oA;have X:=bd A D oA oA;have Y:=bd C B oA oA;have Z:=bd A B oA oA;have E:=vU A C B D 4294967296;rw [show A*4294967296+C=x by omega,show B*4294967296+D=y by omega] at E;have I:=gy C D;have J:=gy A D;have L:=gy C B;have M:=gy A B;have f:=gy x y;obtain ⟨a,O⟩:=At (C*D);obtain ⟨b,P⟩:=At (A*D);obtain ⟨c,R⟩:=At (C*B);obtain ⟨d,S⟩:=At (A*B);rw [<-O] at W I E;rw [<-P] at X J E;rw [<-R] at Y L E;rw [<-S] at Z M E;rw [Wn oA] at I J L M;obtain ⟨t,n⟩:=At (b+a/4294967296);obtain ⟨t0,N⟩:=At (t%4294967296);obtain ⟨t1,g⟩:=At (t/4294967296);obtain ⟨s,o⟩:=At (t0+c);obtain ⟨u,hu⟩:=At (d+t1);obtain ⟨v,hv⟩:=At (u+s/4294967296);obtain ⟨r,F⟩:=At (x*y%2^64);have T:v=x*y/2^64:=(by rw [E];omega);have q1:(x:Int)/4294967296=(A:Int):=oA;have q2:(y:Int)/4294967296=(B:Int):=oA;have a1:=yx x hx;have a2:=yx y j;rw [<-G] at a1;rw [<-H] at a2;have a3:=yx t oA;rw [<-N] at a3;have w1:IntKind.u64.wrap ((b:Int)+(a:Int)/4294967296)=(t:Int):=(by rw [show (b:Int)+(a:Int)/4294967296=((t:Nat):Int) by omega,eW];omega);have w2:(t:Int)/4294967296=(t1:Int):=oA;have w3:IntKind.u64.wrap ((t0:Int)+(c:Int))=(s:Int):=(by rw [show (t0:Int)+(c:Int)=((s:Nat):Int) by omega,eW];omega);have w4:IntKind.u64.wrap ((d:Int)+(t1:Int))=(u:Int):=(by rw [show (d:Int)+(t1:Int)=((u:Nat):Int) by omega,eW];omega);have w5:IntKind.u64.wrap ((u:Int)+(s:Int)/4294967296)=(v:Int):=(by rw [show (u:Int)+(s:Int)/4294967296=((v:Nat):Int) by omega,eW];omega);rw [<-T,<-F];rw [<-F] at f;clear G U H V O P R S n N g o hu hv F T E bd;go_enter func210,ntmps210;go_wp2_with fail;go_ret2;exact ⟨rfl,rfl⟩
theorem FJ (y x:Nat) (w:As) (J:y<2^37) (hx:x<65536):
  Calls prog 204 #[.int .u64 (y:Int),.int .u64 (x:Int),.bool false] w fun e w'=>e= .returned (.bool (pwB false y x))/\w=w':=by
 have G:=qF y y w oA oA;have A:pwB false y x=decide (y*y<=x*18446744073709551616):=rfl;obtain ⟨h,B⟩:=At (y*y/2^64);obtain ⟨l,C⟩:=At (y*y%2^64);rw [<-B,<-C] at G;obtain ⟨P,H⟩:=At (y*y);rw [<-H] at B C A;have E:=Hd G;clear G H;by_cases F:h<x
 .have D:=Hd (show pwB false y x=true by rw [A];simp;omega);have t1:decide (h<x)=true:=(by simpa using F);clear B C A;go_enter func204,ntmps204;go_wp2_with fail;refine E.out.mono ?_;rintro e w' ⟨rfl,rfl⟩;go_wp2_with fail;go_ret;exact ⟨by rw [D.out];rfl,rfl⟩
 .by_cases h2:h=x/\l=0
  .obtain ⟨rfl,rfl⟩:=h2;have D:=Hd (show pwB false y h=true by rw [A];simp;omega);clear B C A;go_enter func204,ntmps204;go_wp2_with fail;refine E.out.mono ?_;rintro e w' ⟨rfl,rfl⟩;go_wp2_with fail;go_ret;exact ⟨by rw [D.out];rfl,rfl⟩
  .have D:=Hd (show pwB false y x=false by rw [A];simp;omega);have t1:decide (h<x)=false:=(by simpa using F);by_cases I:h=x
   .subst I;have t3:((l:Int)==0)=false:=soA;clear B C A F h2;go_enter func204,ntmps204;go_wp2_with fail;refine E.out.mono ?_;rintro e w' ⟨rfl,rfl⟩;go_wp2_with fail;go_ret;exact ⟨by rw [D.out];rfl,rfl⟩
   .have t3:((h:Int)==(x:Int))=false:=soA;clear B C A F h2;go_enter func204,ntmps204;go_wp2_with fail;refine E.out.mono ?_;rintro e w' ⟨rfl,rfl⟩;go_wp2_with fail;go_ret;exact ⟨by rw [D.out];rfl,rfl⟩
theorem sH (y h l a b C:Nat) (P:Nat) (A:P=y*y) (B:h=P/18446744073709551616) (D:l=P%18446744073709551616) (E:a=l*y/18446744073709551616) (F:b=l*y%18446744073709551616) (G:C=h*y+a):y*y*y=C*18446744073709551616+b:=by
 have H:P=h*18446744073709551616+l:=(by rw [B,D];exact (Nat.div_add_mod' P 18446744073709551616).symm);have I:l*y=a*18446744073709551616+b:=(by rw [E,F];exact (Nat.div_add_mod' (l*y) 18446744073709551616).symm);rw [<-A,H,XV,Nat.mul_right_comm,I,G,XV,WM]
theorem FK (y x:Nat) (w:As) (f:y<2^37) (hx:x<65536):
  Calls prog 204 #[.int .u64 (y:Int),.int .u64 (x:Int),.bool true] w fun e w'=>e= .returned (.bool (pwB true y x))/\w=w':=by
 have J:=qF y y w oA oA;have A:pwB true y x=decide (y*y*y<=x*79228162514264337593543950336):=rfl;obtain ⟨h,L⟩:=At (y*y/2^64);obtain ⟨l,M⟩:=At (y*y%2^64);rw [<-L,<-M] at J;have I:=qF l y w oA oA;obtain ⟨a,N⟩:=At (l*y/2^64);obtain ⟨b,O⟩:=At (l*y%2^64);rw [<-N,<-O] at I;have W:y*y<=2^37*2^37:=XF oA oA;have Z:h<=1024:=oA;have U:h*y<=1024*2^37:=XF oA oA;have X:l*y<=2^64*2^37:=XF oA oA;obtain ⟨C,P⟩:=At (h*y+a);have T:=sH y h l a b C (y*y) rfl L M N O P;rw [T] at A;have k1:=gy h y;rw [Wn oA] at k1;obtain ⟨q,V⟩:=At (h*y);rw [<-V] at k1 P U;have k2:IntKind.u64.wrap ((q:Int)+(a:Int))=(C:Int):=(by rw [show (q:Int)+(a:Int)=((C:Nat):Int) by omega,eW];omega);have c:C<2^48:=oA;have d:b<2^64:=oA;obtain ⟨B,F⟩:=At (C/4294967296);have k3:(C:Int)/4294967296=(B:Int):=oA;obtain ⟨s,E⟩:=At (C*4294967296%18446744073709551616);have k4:(C:Int)*4294967296%18446744073709551616=(s:Int):=oA;have k5:IntKind.u64.wrap ((C:Int)*4294967296)=(s:Int):=(by rw [show (C:Int)*4294967296=((C*4294967296:Nat):Int) by omega,eW,E]);have H:=Hd J;have G:=Hd I;clear J I L M N O P T V W X U;by_cases R:B<x
 .have D:=Hd (show pwB true y x=true by rw [A];exact VK oA);have t1:decide (B<x)=true:=(by simpa using R);clear A F E;go_enter func204,ntmps204;go_wp2_with fail;refine H.out.mono ?_;rintro e w' ⟨rfl,rfl⟩;go_wp2_with fail;refine G.out.mono ?_;rintro e w' ⟨rfl,rfl⟩;go_wp2_with fail;go_ret;exact ⟨by rw [D.out];rfl,rfl⟩
 .by_cases h2:B=x
  .subst h2;by_cases S:C%4294967296=0
   .obtain rfl:s=0:=oA;by_cases Y:b=0
    .subst Y;have D:=Hd (show pwB true y B=true by rw [A];exact VK oA);clear A F S E;go_enter func204,ntmps204;go_wp2_with fail;refine H.out.mono ?_;rintro e w' ⟨rfl,rfl⟩;go_wp2_with fail;refine G.out.mono ?_;rintro e w' ⟨rfl,rfl⟩;go_wp2_with fail;go_ret;exact ⟨by rw [D.out];rfl,rfl⟩
    .have t4:((b:Int)==0)=false:=soA;have D:=Hd (show pwB true y B=false by rw [A];exact VO oA);clear A F S E;go_enter func204,ntmps204;go_wp2_with fail;refine H.out.mono ?_;rintro e w' ⟨rfl,rfl⟩;go_wp2_with fail;refine G.out.mono ?_;rintro e w' ⟨rfl,rfl⟩;go_wp2_with fail;go_ret;exact ⟨by rw [D.out];rfl,rfl⟩
   .have t3:((s:Int)==0)=false:=soA;have D:=Hd (show pwB true y B=false by rw [A];exact VO oA);clear A F S E;go_enter func204,ntmps204;go_wp2_with fail;refine H.out.mono ?_;rintro e w' ⟨rfl,rfl⟩;go_wp2_with fail;refine G.out.mono ?_;rintro e w' ⟨rfl,rfl⟩;go_wp2_with fail;go_ret;exact ⟨by rw [D.out];rfl,rfl⟩
  .have t1:decide (B<x)=false:=(by simpa using R);have t2:((B:Int)==(x:Int))=false:=soA;have D:=Hd (show pwB true y x=false by rw [A];exact VO oA);clear A F R h2 E;go_enter func204,ntmps204;go_wp2_with fail;refine H.out.mono ?_;rintro e w' ⟨rfl,rfl⟩;go_wp2_with fail;refine G.out.mono ?_;rintro e w' ⟨rfl,rfl⟩;go_wp2_with fail;go_ret;exact ⟨by rw [D.out];rfl,rfl⟩
open Go.RowKit
theorem PQ:bC prog 271 196 1 4:=bC.mk (z:= .int .u32 0) underlying271 krA rfl oA
theorem Ma:bC prog 278 105 1 8:=bC.mk (z:= .int .u64 0) underlying278 krA rfl oA
def nv (x:Nat):Value:= .int .u64 (x:Int)
theorem Fs (A:Bool) (l:List Nat) (x:Nat):(Ft A (l++ [x])).map wv=(Ft A l).map wv++ [.int .u32 (U32 (BitVec.ofNat 32 (rt A x)))]:=by
 simp [Ft,wv]
theorem uK (x:Nat):(x:Int)%4294967296=U32 (BitVec.ofNat 32 x):=by simp [U32]
structure RtIn (w:As) (H:Nat) (third:Bool) (l m:List Nat) (pa oa:Lt) (pc oc:Nat) (wr:As):Prop where
 primes:Own wr H 105 1 pa l.length pc (l.map nv)
 out:Own wr H 196 1 oa m.length oc ((Ft third m).map wv)
 below:Below H w wr
def Rt1 (w:As) (n:Nat) (third:Bool) (f:Nat) (p o x:Value) (wr:As):Prop:=
 ∃(k X L:Nat) (pa oa:Lt) (pc oc:Nat),f+k=311/\X=k+2/\L=(ps k).length/\L<=n/\p= .slice pa L pc/\o= .slice oa L oc/\x= .int .u64 (X:Int)/\RtIn w w.heap.size third (ps k) (ps k) pa oa pc oc wr
def Rt2 (wq:As) (X:Nat) (l:List Nat) (f:Nat) (i:Value) (wr:As):Prop:=
 ∃j:Nat,f+j=l.length/\i= .int .i64 (j:Int)/\(∀q,(h:q<l.length)->q<j->X%l[q]≠0)/\wq=wr
def Rt3 (wq:As) (third:Bool) (x:Nat) (f:Nat) (lo hi:Value) (wr:As):Prop:=
 ∃a b:Nat,lo= .int .u64 (a:Int)/\hi= .int .u64 (b:Int)/\a<b/\b<=85899345920/\b-a<=2^f/\bs third x f a b=rt third x/\wq=wr
theorem vB (y x:Nat) (A:Bool) (w:As) (B:y<2^37) (hx:x<65536):
  Calls prog 204 #[.int .u64 (y:Int),.int .u64 (x:Int),.bool A] w fun e w'=>e= .returned (.bool (pwB A y x))/\w=w':=by
 cases A
 .exact FJ y x w B hx
 .exact FK y x w B hx
theorem Nm {A:Bool} {x f a b m:Nat} (h:1<b-a) (B:m=a+(b-a)/2) (C:pwB A m x=true):bs A x (f+1) a b=bs A x f m b:=by subst B;rw [bs,Vz h,Vz C]
theorem Qp {A:Bool} {x f a b m:Nat} (h:1<b-a) (B:m=a+(b-a)/2) (C:pwB A m x=false):bs A x (f+1) a b=bs A x f a m:=by subst B;rw [bs,Vz h,C];rfl
theorem vp (n:Nat) (B:Bool) (w:As) (hn:n<=64):
  Calls prog 195 #[.int .i64 (n:Int),.bool B] w fun e w'=>∃k a c,(ps k).length=n/\e= .returned (.slice a n c)/\Own w' w.heap.size 196 1 a n c ((Ft B (ps k)).map wv)/\Below w.heap.size w w':=by
 go_enter func195,ntmps195;go_wp2_with fail;go_step3;go_wp2_with fail;go_step3;go_wp2_with fail;go_loopg [5,6,7] 311 (Rt1 w n B)
 case atStart=>exact ⟨0,2,0,none,none,0,0,oA,rfl,rfl,oA,rfl,rfl,rfl,⟨Own.nil _ _ _ _,Own.nil _ _ _ _,VW _ _⟩⟩
 case round=>
  obtain ⟨k,X,L,pa,oa,pc,oc,A,C,F,B6,rfl,rfl,rfl,D⟩:=hrel;have A2:=D.primes.le_max;rw [<-F] at A2;unfold maxLen at A2;have C9:L<=k:=(by rw [F];exact Hl k);by_cases A3:L<n
  .have tl:decide (L<n)=true:=(by simpa using A3);have hk:k<310:=Mk oA;have A4:X<65536:=oA;have S:=Hd A;have r:=Hd C;have G:=Hd F;clear A C F;obtain ⟨g0,rfl⟩:∃g:Nat,g=gk:=⟨_,rfl⟩;obtain ⟨T,rfl⟩:∃T:World,T=wr:=⟨_,rfl⟩;go_wp2_with fail;go_loopg [21,9] L (fun f i _ wr=>Rt2 T X (ps k) f i wr)
   case atStart=>exact ⟨0,by rw [<-G.out];omega,rfl,fun q _ h=>by omega,rfl⟩
   case round=>
    obtain ⟨j,A,rfl,O,rfl⟩:=hrel;have M:=G.out;by_cases s:j<L
    .have tj:decide (j<L)=true:=(by simpa using s);have A5:j<(ps k).length:=(by rw [<-M];exact s);obtain ⟨b,o,B7,hc⟩:=D.primes.row j (by simpa using A5);subst B7;obtain ⟨p,I⟩:=At ((ps k)[j]);have DO:T.cell? ⟨b,o+j,none⟩=some (.int .u64 (p:Int)):=by
      rw [hc,I];simp [nv]
     have D0:2<=p:=(by rw [I];exact (Hk k _ (VQ _)).1);have C8:(2:Int)<=(p:Int):=oA;have HP:=Hd I;have HN:=Hd O;have A6:=Hd A;have HC:=Hd M;clear hc I O A M;by_cases E:X%p=0
     .have td:((X:Int)%(p:Int)==0)=true:=(by rw [XY];exact_mod_cast E);have t:=Hd E;clear E;go_wp2_with fail;go_roundg (g0-1)
      case rel=>
       have A:=S.out;have C:=r.out;have e:ps (k+1)=ps k:=by
        rw [ps,mR,VV];intro h;have:=Xx.1 h _ (VQ A5);rw [<-HP.out,<-C] at this;simp [t.out] at this
       exact ⟨k+1,X+1,L,_,_,_,_,oA,oA,by rw [e];exact G.out,B6,rfl,rfl,gnA,by rw [e];exact D⟩
      case measure=>have A:=S.out;omega
     .have td:((X:Int)%(p:Int)==0)=false:=(by rw [beq_eq_false_iff_ne];exact_mod_cast E);have t:=Hd E;clear E;go_wp2_with fail;go_roundg (gk-1)
      case rel=>
       have A:=A6.out;refine ⟨j+1,oA,gnA,fun q y D1=> ?_,rfl⟩;by_cases e:q=j
       .subst e;rw [<-HP.out];exact t.out
       .exact HN.out q y oA
      case measure=>have A:=A6.out;have:=HC.out;omega
    .have tj:decide (j<L)=false:=(by simpa using s);have A0:ps (k+1)=ps k++ [X]:=by
      have C:=r.out;rw [ps,mR,Vz,C];rw [Xx];intro p I;obtain ⟨q,y,rfl⟩:=XC I;have:=O q y oA;rw [C] at this;simpa using this
     have HA:=Hd A0;have D2:(k:Nat)<310:=hk;have J:=D.primes;have U:=D.out;rw [<-M] at J U;have hb:=D.below;clear A0 O A M D;have B9:=hb.size;go_wp2_with (at_builtin;refine al rfl (.tmp 30) (.tmp 32) 278 rfl Ma rfl (J.alloc _) rfl (av.new' _ _ _ _ skA) rfA (by exact de _ rfl) mxA oA soA ?_);intro CK CW w4 B1 W;have A7:=(J.alloc (.cells #[Value.int .u64 (X:Int)] 105)).grown (hb.alloc B9 _) (VU _) W soA;have V:=(U.alloc (.cells #[Value.int .u64 (X:Int)] 105)).apart (J.alloc _) dcA W;clear J U W hb;go_wp2_with fail;go_loopg [10,11] 64 (Rt3 w4 B X)
     case atStart=>exact ⟨0,85899345920,rfl,rfl,oA,oA,oA,rfl,rfl⟩
     case round=>
      obtain ⟨a,b,rfl,rfl,D3,C0,A1,A8,rfl⟩:=hrel;obtain ⟨d,E⟩:=At (b-a);have D4:(b:Int)-(a:Int)=(d:Int):=oA;have Y:=Hd A8;clear A8;by_cases h1:1<d
      .have t1:decide ((1:Int)<(d:Int))=true:=soA;obtain ⟨e,he⟩:=At (d/2);have D5:(d:Int)/2=(e:Int):=oA;obtain ⟨m,hm⟩:=At (a+e);have D6:(a:Int)+(e:Int)=(m:Int):=oA;obtain ⟨H,Z⟩:∃H,gk=H+1:=⟨gk-1,by
        rcases ZK gk with h0|h0
        .subst h0;omega
        .omega⟩
       have B3:2^gk=2*2^H:=(by rw [Z,Ze,Wr]);have A9:=Hd (show m=a+(b-a)/2 by omega);have HG:=Hd (show b-m<=2^H/\m-a<=2^H by omega);have P:=Hd Z;have C1:a<m:=oA;have C2:m<b:=oA;have BY:1<b-a:=oA;clear A1 B3 E he hm Z;cases R:pwB B m X with
       |true=>
        have N:=Hd R;go_wp2_with fail;refine (vB m X B _ oA A4).mono ?_;rw [N.out];clear R;rintro e' w' ⟨rfl,rfl⟩;go_wp2_with fail;go_roundg H
        case rel=>exact ⟨m,b,rfl,rfl,C2,C0,HG.out.1,by rw [<-Y.out,P.out,Nm BY A9.out N.out],rfl⟩
        case measure=>have:=P.out;omega
       |false=>
        have N:=Hd R;go_wp2_with fail;refine (vB m X B _ oA A4).mono ?_;rw [N.out];clear R;rintro e' w' ⟨rfl,rfl⟩;go_wp2_with fail;go_roundg H
        case rel=>exact ⟨a,m,rfl,rfl,C1,oA,HG.out.2,by rw [<-Y.out,P.out,Qp BY A9.out N.out],rfl⟩
        case measure=>have:=P.out;omega
      .have t1:decide ((1:Int)<(d:Int))=false:=soA;have l:rt B X=a:=(by rw [<-Y.out];exact KI _ _ _ _ oA _);have hU:=uK a;rw [<-l] at hU;have C3:=Hd l;have C4:(a:Int)%4294967296=U32 (BitVec.ofNat 32 (rt B X)):=(by rw [C3.out];exact uK a);clear hU l E A1;have B4:=A7.size;go_wp2_with (at_builtin;refine al rfl (.tmp 50) (.tmp 53) 271 rfl PQ rfl (V.alloc _) rfl (av.new' _ _ _ _ skA) rfA (by exact de _ rfl) mxA oA soA ?_);intro C5 C6 w5 B2 B0;have C7:=(V.alloc (.cells #[Value.int .u32 (U32 (BitVec.ofNat 32 (rt B X)))] 196)).grown (A7.alloc B4 _) (VU _) B0 soA;have B5:=(B1.alloc (.cells #[Value.int .u32 (U32 (BitVec.ofNat 32 (rt B X)))] 196)).apart (V.alloc _) dcA B0;clear C4;go_wp2_with fail;go_roundg (g0-1)
       case rel=>
        have A:=S.out;have C:=r.out;have F:=G.out;have e:=HA.out;have el:(ps (k+1)).length=L+1:=(by rw [e,laA,<-F];rfl);refine ⟨k+1,X+1,L+1,CK,C5,CW,C6,oA,oA,el.symm,oA,rfl,rfl,gnA,?_⟩;refine ⟨?_,?_,C7⟩
        .rw [el,e,VF];exact B5
        .rw [el,e,Fs];exact B2
       case measure=>have A:=S.out;omega
  .have tl:decide (L<n)=false:=(by simpa using A3);obtain rfl:L=n:=oA;have G:=Hd F;clear A C F;go_wp2_with fail
   (try rw [Wq]);go_ret;refine ⟨k,oa,oc,G.out.symm,rfl,?_,D.below⟩;have:=D.out;rw [<-G.out] at this;exact this
open Go.RowKit
def rr (x:BitVec 32) (n:Nat):BitVec 32:=(x<<<(32-n))|||(x>>>n)
def sg0 (x:BitVec 32):BitVec 32:=rr x 7^^^rr x 18^^^x>>>3
def sg1 (x:BitVec 32):BitVec 32:=rr x 17^^^rr x 19^^^x>>>10
def wx (w:Nat->BitVec 32):Nat->Nat->BitVec 32
 |0=>w
 |k+1=>fun j=>if j=16+k then wx w k (16+k-16)+wx w k (16+k-7)+sg0 (wx w k (16+k-15))+sg1 (wx w k (16+k-2)) else wx w k j
def uu (v:Nat->BitVec 32) (k w:BitVec 32):BitVec 32:=v 7+(rr (v 4) 6^^^rr (v 4) 11^^^rr (v 4) 25)+((v 4&&&v 5)^^^(~~~v 4&&&v 6))+k+w
def xx (v:Nat->BitVec 32):BitVec 32:=(rr (v 0) 2^^^rr (v 0) 13^^^rr (v 0) 22)+((v 0&&&v 1)^^^(v 0&&&v 2)^^^(v 1&&&v 2))
def rd (v:Nat->BitVec 32) (k w:BitVec 32):Nat->BitVec 32:=fun j=>if j=0 then uu v k w+xx v else if j=4 then v 3+uu v k w else v (j-1)
def kwd (i:Nat):BitVec 32:=Ll.getD i 0#32
def hwd (i:Nat):BitVec 32:=Lm.getD i 0#32
def vs (h w:Nat->BitVec 32):Nat->Nat->BitVec 32
 |0=>h
 |t+1=>rd (vs h w t) (kwd t) (w t)
def cmp (h w:Nat->BitVec 32):Nat->BitVec 32:=fun j=>h j+vs h (wx w 48) 64 j
def byt (l:Le) (i:Nat):BitVec 8:=(l.getD i 0).toBitVec
def nx (l:Le) (p:Nat):Nat->BitVec 32
 |0=>0#32
 |q+1=>nx l p q<<<8|||(byt l (p+q)).setWidth 32
def wd (l:Le) (o t:Nat):BitVec 32:=nx l (o+4*t) 4
def stt (l:Le):Nat->Nat->BitVec 32
 |0=>hwd
 |i+1=>cmp (stt l i) (wd l (64*i))
theorem yI {l m:Le} {p q:Nat}:∀{n:Nat},(∀i,i<n->byt l (p+i)=byt m (q+i))->nx l p n=nx m q n
 |0,_=>rfl
 |n+1,h=>by rw [nx,nx,yI (fun i A=>h i oA),h n oA]
theorem LF {w u:Nat->BitVec 32} (h:∀t,t<16->w t=u t):∀k,k<=48->∀j,j<16+k->wx w k j=wx u k j
 |0,_,j,hj=>h j oA
 |k+1,hk,j,hj=>by
  have A:=LF h k oA;simp only [wx];by_cases e:j=16+k
  .rw [Vz e,Vz e,A _ oA,A _ oA,A _ oA,A _ oA]
  .rw [VV e,VV e,A j oA]
theorem Qa {v u:Nat->BitVec 32} (h:∀j,j<8->v j=u j) (k w:BitVec 32):∀j,j<8->rd v k w j=rd u k w j:=fun j A=>by
 unfold rd uu xx;rw [h 0 oA,h 1 oA,h 2 oA,h 3 oA,h 4 oA,h 5 oA,h 6 oA,h 7 oA];by_cases e:j=0
 .rw [Vz e,Vz e]
 .rw [VV e,VV e,h (j-1) oA]
theorem LK {h g w u:Nat->BitVec 32} (A:∀j,j<8->h j=g j) (B:∀t,t<64->w t=u t):∀t,t<=64->∀j,j<8->vs h w t j=vs g u t j
 |0,_,j,hj=>A j hj
 |t+1,ht,j,hj=>by
  rw [vs,vs,B t oA];exact Qa (LK A B t oA) _ _ j hj
theorem zQ {h g w u:Nat->BitVec 32} (A:∀j,j<8->h j=g j) (C:∀t,t<16->w t=u t):∀j,j<8->cmp h w j=cmp g u j:=fun j B=>by
 unfold cmp;rw [A j B,LK A (fun t D=>LF C 48 oA t oA) 64 oA j B]
theorem IP {l m:Le} {o p t:Nat} (h:∀i,i<64->byt l (o+i)=byt m (p+i)) (A:t<16):wd l o t=wd m p t:=
 yI fun i B=>by
  have:=h (4*t+i) oA;rwa [show o+4*t+i=o+(4*t+i) by omega,show p+4*t+i=p+(4*t+i) by omega]
theorem Hj {l m:Le}:∀i,(∀k,k<64*i->byt l k=byt m k)->∀j,j<8->stt l i j=stt m i j
 |0,_,_,_=>rfl
 |i+1,h,j,hj=>by
  rw [stt,stt];exact zQ (Hj i fun k B=>h k oA) (fun t A=>IP (fun q C=>h (64*i+q) oA) A) j hj
end
section
open Go.RowKit
theorem LG (n:Int):IntKind.u32.wrap n=n%4294967296:=by simp [IntKind.wrap,IntKind.bits,IntKind.signed]
theorem pE (a b:BitVec 32):(U32 a+U32 b)%(4294967296:Int)=U32 (a+b):=by
 simp only [U32,BitVec.toNat_add];omega
theorem yz (a b:BitVec 32):IntKind.u32.wrap (U32 a+U32 b)=U32 (a+b):=by rw [LG,pE]
theorem uD (a:BitVec 32):U32 a/(8:Int)=U32 (a>>>3):=kt a 3
theorem mv (a:BitVec 32):U32 a/(1024:Int)=U32 (a>>>10):=kt a 10
theorem tC (a:BitVec 32):U32 a*(256:Int)%(4294967296:Int)=U32 (a<<<8):=uJ a 8
theorem BN (v:BitVec 32) (c:UInt8):U32 (v<<<8|||BitVec.ofInt 32 (U8 c%(4294967296:Int)))=U32 (v<<<8|||c.toBitVec.setWidth 32):=by
 rw [show U8 c%(4294967296:Int)=U8 c from by have:=BA c;have:=yA c;omega,ig]
attribute [local go_sem] tC ig iz iA jl gG pE yz uD mv qB
def Ji:List Nat:=[7,18,17,19,6,11,25,2,13,22]
theorem gu (x:BitVec 32) (n:Nat) (p q:Int) (A:p=(2:Int)^(32-n)) (B:q=(2:Int)^n):BitVec.ofInt 32 (U32 x*p%4294967296)|||BitVec.ofInt 32 (U32 x/q)=rr x n:=by
 have C:U32 x*((2^(32-n):Nat):Int)%4294967296=U32 (x<<<(32-n)):=uJ x (32-n);have D:U32 x/(2:Int)^n=U32 (x>>>n):=kt x n;rw [A,B,D,show (2:Int)^(32-n)=((2^(32-n):Nat):Int) by norm_cast,C,gG,gG];rfl
theorem Au (x:BitVec 32) (n:Nat) (A:n∈Ji) (w:As):
  Calls prog 206 #[.int .u32 (U32 x),.int .i64 (-(n:Int))] w fun e w'=>e= .returned (.int .u32 (U32 (rr x n)))/\w=w':=by
 simp only [Ji,Vk,Yu,Zg] at A;rcases A with rfl|rfl|rfl|rfl|rfl|rfl|rfl|rfl|rfl|rfl
 .have t:bits .and .u64 (IntKind.u64.wrap (-7)) 31=25:=dcA;go_enter func206,ntmps206;go_wp2_with fail;go_ret;exact ⟨by rw [<-gu x 7 33554432 128 rfl rfl];rfl,rfl⟩
 .have t:bits .and .u64 (IntKind.u64.wrap (-18)) 31=14:=dcA;go_enter func206,ntmps206;go_wp2_with fail;go_ret;exact ⟨by rw [<-gu x 18 16384 262144 rfl rfl];rfl,rfl⟩
 .have t:bits .and .u64 (IntKind.u64.wrap (-17)) 31=15:=dcA;go_enter func206,ntmps206;go_wp2_with fail;go_ret;exact ⟨by rw [<-gu x 17 32768 131072 rfl rfl];rfl,rfl⟩
 .have t:bits .and .u64 (IntKind.u64.wrap (-19)) 31=13:=dcA;go_enter func206,ntmps206;go_wp2_with fail;go_ret;exact ⟨by rw [<-gu x 19 8192 524288 rfl rfl];rfl,rfl⟩
 .have t:bits .and .u64 (IntKind.u64.wrap (-6)) 31=26:=dcA;go_enter func206,ntmps206;go_wp2_with fail;go_ret;exact ⟨by rw [<-gu x 6 67108864 64 rfl rfl];rfl,rfl⟩
 .have t:bits .and .u64 (IntKind.u64.wrap (-11)) 31=21:=dcA;go_enter func206,ntmps206;go_wp2_with fail;go_ret;exact ⟨by rw [<-gu x 11 2097152 2048 rfl rfl];rfl,rfl⟩
 .have t:bits .and .u64 (IntKind.u64.wrap (-25)) 31=7:=dcA;go_enter func206,ntmps206;go_wp2_with fail;go_ret;exact ⟨by rw [<-gu x 25 128 33554432 rfl rfl];rfl,rfl⟩
 .have t:bits .and .u64 (IntKind.u64.wrap (-2)) 31=30:=dcA;go_enter func206,ntmps206;go_wp2_with fail;go_ret;exact ⟨by rw [<-gu x 2 1073741824 4 rfl rfl];rfl,rfl⟩
 .have t:bits .and .u64 (IntKind.u64.wrap (-13)) 31=19:=dcA;go_enter func206,ntmps206;go_wp2_with fail;go_ret;exact ⟨by rw [<-gu x 13 524288 8192 rfl rfl];rfl,rfl⟩
 .have t:bits .and .u64 (IntKind.u64.wrap (-22)) 31=10:=dcA;go_enter func206,ntmps206;go_wp2_with fail;go_ret;exact ⟨by rw [<-gu x 22 1024 4194304 rfl rfl];rfl,rfl⟩
theorem Fw (x:BitVec 32) (n:Nat) (A:n∈Ji) (w:As):
  Calls prog 205 #[.int .u32 (U32 x),.int .i64 (n:Int)] w fun e w'=>e= .returned (.int .u32 (U32 (rr x n)))/\w=w':=by
 have C:(n:Int)<=100:=by
  simp only [Ji,Vk,Yu,Zg] at A;omega
 have B:=Hd A;clear A;go_enter func205,ntmps205;go_wp2_with fail;refine (Au x n B.out _).mono ?_;rintro e w' ⟨rfl,rfl⟩;go_wp2_with fail;go_ret;exact ⟨rfl,rfl⟩
def hcs (h:Nat->BitVec 32) (r n:Value) (j:Nat):Value:=if j<8 then wv (h j) else if j=8 then r else if j=9 then n else wv (kwd (j-10))
theorem Gn (h:Nat->BitVec 32) (r n:Value) {j:Nat} (A:j<8):hcs h r n j= .int .u32 (U32 (h j)):=by rw [hcs,Vz A];rfl
theorem Qg (h:Nat->BitVec 32) (r n:Value) {j:Nat} (A:j<64):hcs h r n (10+j)= .int .u32 (U32 (kwd j)):=by
 rw [hcs,VV oA,VV oA,VV oA,YN];rfl
theorem MK:lY prog 270 74:=⟨⟨_,underlying270,rfl⟩,krA⟩
theorem yy:lY prog 267 8:=⟨⟨_,underlying267,rfl⟩,krA⟩
theorem Bu:lY prog 268 64:=⟨⟨_,underlying268,rfl⟩,krA⟩
theorem fX:lY prog 170 32:=⟨⟨_,underlying170,rfl⟩,krA⟩
theorem Hb:(Tryz.prog.info? 268).bind (·.zero)=some (.agg (vA 64 fun _=> .int .u32 0)):=by kernel_rfl
structure Li (w:As) (g H:Nat) (h:Nat->BitVec 32) (r n:Value) (W:Nat->BitVec 32) (wr:As):Prop where
 hash:Blk wr g (vA 74 (hcs h r n)) 270
 words:Blk wr H (vA 64 fun j=>wv (W j)) 268
 only:w.grownBy wr (some g)
def Bk1 (w:As) (g H:Nat) (h:Nat->BitVec 32) (r n:Value) (m:Le) (f:Nat) (i:Value) (wr:As):Prop:=
 ∃t:Nat,f+t=16/\i= .int .i64 (t:Int)/\Li w g H h r n (fun j=>if j<t then wd m 0 j else 0#32) wr
def Bk2 (w:As) (g H:Nat) (h:Nat->BitVec 32) (r n:Value) (m:Le) (t:Nat) (f:Nat) (i:Value) (wr:As):Prop:=
 ∃q:Nat,f+q=4/\i= .int .i64 (q:Int)/\Li w g H h r n (fun j=>if j=t then nx m (4*t) q else if j<t then wd m 0 j else 0#32) wr
def Bk3 (w:As) (g H:Nat) (h:Nat->BitVec 32) (r n:Value) (w0:Nat->BitVec 32) (f:Nat) (i:Value) (wr:As):Prop:=
 ∃t k:Nat,f+t=64/\t=16+k/\i= .int .i64 (t:Int)/\Li w g H h r n (wx w0 k) wr
def Bk4 (w:As) (g H V:Nat) (h:Nat->BitVec 32) (r n:Value) (u:Nat->BitVec 32) (f:Nat) (i:Value) (wr:As):Prop:=
 ∃t:Nat,f+t=64/\i= .int .i64 (t:Int)/\Li w g H h r n u wr/\Blk wr V (vA 8 fun j=>wv (vs h u t j)) 267
def Bk5 (w:As) (g:Nat) (h:Nat->BitVec 32) (r n:Value) (u:Nat->BitVec 32) (f:Nat) (i:Value) (wr:As):Prop:=
 ∃t:Nat,f+t=8/\i= .int .i64 (t:Int)/\Blk wr g (vA 74 (hcs (fun j=>if j<t then h j+vs h u 64 j else h j) r n)) 270/\w.grownBy wr (some g)
theorem kh:(Tryz.prog.info? 196).map (·.size)=some 1:=by kernel_rfl
theorem Qd (f:Nat->Value) (t:Nat) (A:t<64) (W:As):(Instr.index 268 (.agg (vA 64 f)) (.int .i64 (t:Int))).run prog W= .ok (f t) W:=
 eG underlying268 underlying196 rfl kh W _ t _ (mJ f A) A
theorem idx8 (f:Nat->Value) (t:Nat) (A:t<8) (W:As):(Instr.index 267 (.agg (vA 8 f)) (.int .i64 (t:Int))).run prog W= .ok (f t) W:=
 eG underlying267 underlying196 rfl kh W _ t _ (mJ f A) A
theorem Lk:Tryz.prog.arrayLen 267=8:=by kernel_rfl
theorem Gz:Tryz.prog.elem 267=196:=by kernel_rfl
theorem Qr:Tryz.prog.underlying 267=some (.array (Tryz.prog.arrayLen 267) (Tryz.prog.elem 267)):=by rw [Lk,Gz];exact underlying267
theorem Qm (b:Nat) (W:As):(Instr.sliceAt 267 (.pointer (some ⟨b,0,none⟩)) (some (.int .i64 1)) none none).run prog W= .ok (.slice (some ⟨b,1,none⟩) 7 7) W:=by
 rw [run_sliceAt_array_l W _ _ Qr .i64 1 oA (by rw [Lk];omega),Gz,eI kh,Lk];simp [slicedAt,WA]
theorem Ql (b:Nat) (W:As):(Instr.sliceAt 267 (.pointer (some ⟨b,0,none⟩)) none (some (.int .i64 7)) none).run prog W= .ok (.slice (some ⟨b,0,none⟩) 7 8) W:=by
 rw [run_sliceAt_array_h W _ _ Qr .i64 7 oA (by rw [Lk];omega),Gz,eI kh,Lk];simp [slicedAt,WA]
theorem Ik {h w w' u:Nat->BitVec 32} (A:u=wx w 48) (B:∀t,t<16->w t=w' t) (j:Nat) (C:j<8):h j+vs h u 64 j=cmp h w' j:=by
 subst A;exact zQ (h:=h) (g:=h) (fun _ _=>rfl) B j C
theorem jz (x:BitVec 32) (n:Nat) (z:Int) (A:z=(n:Int)) (B:n∈Ji) (w:As):
  Calls prog 205 #[.int .u32 (U32 x),.int .i64 z] w fun e w'=>e= .returned (.int .u32 (U32 (rr x n)))/\w=w':=by
 subst A;exact Fw x n B w
theorem Et (g:Nat) (h:Nat->BitVec 32) (r n:Value) (s:Lt) (cap:Nat) (m:Le) (w:As) (y:Blk w g (vA 74 (hcs h r n)) 270) (hm:aj w s m) (A0:m.length=64) (B7:64<=cap) (A9:cap<=maxLen)
  (A2:∀b o,s=some ⟨b,o,none⟩->b≠g):
  Calls prog 198 #[.pointer (some ⟨g,0,none⟩),.slice s 64 cap] w fun e w'=>e= .returned (.tuple #[])/\Blk w' g (vA 74 (hcs (cmp h (wd m 0)) r n)) 270/\w.grownBy w' (some g):=by
 unfold maxLen at A9;have B0:=jq Hb;obtain ⟨b,o,B1,hc⟩:=hm.at oA;subst B1;have B2:=A2 b o rfl;have HC:=Hd hc;have HL:=Hd A0;clear A2 hm hc A0;go_enter func198,ntmps198;go_wp2_with fail;clear B0;obtain ⟨H,S⟩:=At w.heap.size;have B9:g<H:=(by rw [S];exact y.lt);refine ag (fun J=>Li w g H h r n (fun _=>0#32) J) ⟨y.alloc _,by rw [S];exact Blk.new _ _ _,nP (Wd _ _) _⟩ ?_;rw [<-S];have P:=Hd S;clear S y;rintro w0 A;go_loopg [19] 16 (Bk1 w g H h r n m)
 case atStart=>exact ⟨0,oA,rfl,A⟩
 case round=>
  clear A;obtain ⟨t,C,rfl,A⟩:=hrel;by_cases G:t<16
  .have L:decide ((t:Int)<16)=true:=soA;have F:=Hd C;clear C;obtain ⟨g0,rfl⟩:∃g:Nat,g=gk:=⟨_,rfl⟩;obtain ⟨p,hp⟩:=At (4*t);have CK:4*(t:Int)=(p:Int):=oA;have Z:(p:Int)+4<=(cap:Int):=oA;have c:(p:Int)<=60:=oA;have HP:=Hd hp;clear hp;go_wp2_with fail;go_loopg [30] 4 (Bk2 w g H h r n m t)
   case atStart=>exact ⟨0,oA,rfl,⟨A.hash,A.words.ofV fun j _=>by
    by_cases e:j=t
    .subst e;rw [VV oA,Vz rfl];rfl
    .rw [VV e],A.only⟩⟩
   case round=>
    clear A;obtain ⟨q,C,rfl,A⟩:=hrel;by_cases hq:q<4
    .have tq:decide ((q:Int)<4)=true:=soA;have C8:(q:Int)<4:=oA;have A3:p+q<m.length:=(by have:=HL.out;omega);have c0:wr.cell? ⟨b,o+p+q,none⟩=some (.int .u8 (U8 m[p+q])):=by
      rw [WM];exact A.only.cell (HC.out (p+q) A3) (by simpa using B2)
     have c1:=A.words.atV (show t<64 by omega) (show wv (if t=t then nx m (4*t) q else if t<t then wd m 0 t else 0#32)= .int .u32 (U32 (nx m (4*t) q)) by rw [Vz rfl];rfl);have r3:=A.words.free;have r4:=A.words.lt;have A4:(t:Int)<64:=oA;have A5:=Hd C;clear C;go_wp2_with fail;clear c0 c1 r3;go_roundg (gk-1)
     case rel=>
      have C:=A5.out;refine ⟨q+1,oA,gnA,A.hash.other _ _ (by show g≠H;omega),?_,pg A.only (by rw [<-P.out];omega) _⟩;refine (A.words.setV oA _).ofV fun j _=> ?_;by_cases e:j=t
      .subst e;rw [Vz rfl,Vz rfl,BN,nx,byt,VG,<-HP.out,VJ A3];rfl
      .rw [VV e,VV e,VV e]
     case measure=>have C:=A5.out;omega
    .obtain rfl:q=4:=oA;have tq:decide (((4:Nat):Int)<4)=false:=skA;clear C;go_wp2_with fail;go_roundg (g0-1)
     case rel=>
      have C:=F.out;exact ⟨t+1,oA,gnA,A.hash,A.words.ofV fun j _=>by
       by_cases e:j=t
       .subst e;rw [Vz rfl,Vz oA,wd,VN]
       .rw [VV e];by_cases E:j<t
        .rw [Vz E,Vz oA]
        .rw [VV E,VV oA],A.only⟩
     case measure=>have C:=F.out;omega
  .obtain rfl:t=16:=oA;have L:decide (((16:Nat):Int)<16)=false:=skA;clear C;obtain ⟨d,Y⟩:∃u:Nat->BitVec 32,u=fun j=>if j<16 then wd m 0 j else 0#32:=⟨_,rfl⟩;rw [<-Y] at A;go_wp2_with fail;go_loopg [9] 48 (Bk3 w g H h r n d)
   case atStart=>exact ⟨16,0,oA,oA,rfl,A⟩
   case round=>
    clear A;obtain ⟨t,k,C,T,rfl,A⟩:=hrel;by_cases G:t<64
    .have L:decide ((t:Int)<64)=true:=soA;have F:=Hd C;clear C;obtain ⟨k1,A6⟩:=At (k+1);obtain ⟨U,A7⟩:=At (k+9);obtain ⟨I,A1⟩:=At (k+14);have e1:IntKind.i64.wrap ((t:Int)-15)=(k1:Int):=(by rw [VD _ oA];omega);have E:IntKind.i64.wrap ((t:Int)-2)=(I:Int):=(by rw [VD _ oA];omega);have e3:IntKind.i64.wrap ((t:Int)-16)=(k:Int):=(by rw [VD _ oA];omega);have e4:IntKind.i64.wrap ((t:Int)-7)=(U:Int):=(by rw [VD _ oA];omega);have i1:(k1:Int)<64:=oA;have i2:(I:Int)<64:=oA;have i3:(k:Int)<64:=oA;have i4:(U:Int)<64:=oA;have i5:(t:Int)<64:=oA;obtain ⟨u,M⟩:=At (wx d k);rw [<-M] at A;have X:∀W,Old wr.drew W->W.cell? ⟨H,k1,none⟩=some (.int .u32 (U32 (u k1))):=fun W h=>(A.words.drew.old h).atV oA rfl;have C2:∀W,Old wr.drew W->W.cell? ⟨H,I,none⟩=some (.int .u32 (U32 (u I))):=fun W h=>(A.words.drew.old h).atV oA rfl;have D3:∀W,Old wr.drew.drew W->W.cell? ⟨H,k,none⟩=some (.int .u32 (U32 (u k))):=fun W h=>(A.words.drew.drew.old h).atV oA rfl;have D4:∀W,Old wr.drew.drew W->W.cell? ⟨H,U,none⟩=some (.int .u32 (U32 (u U))):=fun W h=>(A.words.drew.drew.old h).atV oA rfl;have HU:=Hd M;have HK:=Hd T;have B3:=Hd A6;have B4:=Hd A7;have BY:=Hd A1;clear M T A6 A7 A1;go_wp2_with fail;refine aB (0::1::2::3::4::5::6::7::8::9::[]) krA krA cdA ?_
     repeat refine lxA ?_
     refine bJ ?_;clear X C2;go_wp2_with fail;refine ah true Old Old.refl Old.trans (.step 0 (.step 1 (.step 2 (.step 3 (.step 4 (.step 5 (.step 6 (.step 7 (.step 8 (.step 9 (.step 10 (.step 11 (.step 13 (.step 14 (.step 17 (.step 18 (.step 21 (.step 22 (.step 24 (.step 25 (.step 28 (.step 29 (.step 12 (.step 15 (.step 16 (.step 19 (.step 20 (.step 23 (.step 26 (.step 27 (.step 30 (.step 31 (.step 32 (.step 33 .done)))))))))))))))))))))))))))))))))) krA krA cdA ?_
     repeat refine txA ?_
     refine am rfl rfl rfA (fun K B=> ?_);go_wp2_with fail;refine (jz (u k1) 7 7 rfl dcA _).mono ?_;rintro e w' ⟨rfl,rfl⟩;go_wp2_with fail;refine B _ _ (Old.refl _) ?_;clear B K
     repeat refine txA ?_
     refine am rfl rfl rfA (fun K B=> ?_);go_wp2_with fail;refine (jz (u k1) 18 18 rfl dcA _).mono ?_;rintro e w' ⟨rfl,rfl⟩;go_wp2_with fail;refine B _ _ (Old.refl _) ?_;clear B K
     repeat refine txA ?_
     refine am rfl rfl rfA (fun K B=> ?_);go_wp2_with fail;refine (jz (u I) 17 17 rfl dcA _).mono ?_;rintro e w' ⟨rfl,rfl⟩;go_wp2_with fail;refine B _ _ (Old.refl _) ?_;clear B K
     repeat refine txA ?_
     refine am rfl rfl rfA (fun K B=> ?_);go_wp2_with fail;refine (jz (u I) 19 19 rfl dcA _).mono ?_;rintro e w' ⟨rfl,rfl⟩;go_wp2_with fail;refine B _ _ (Old.refl _) ?_;clear B K
     repeat refine txA ?_
     have N:=A.words.drew.drew;have f3:=N.free;have c3:=N.atV (show t<64 by omega) rfl;refine az rfl rfl rfA (fun K B=> ?_);go_wp2_with fail;refine aq ?_;clear f3 c3;go_wp2_with fail;go_roundg (gk-1)
     case rel=>
      have C:=F.out;have T:=HK.out;refine ⟨t+1,k+1,oA,oA,gnA,A.hash.drew.drew.other _ _ (by show g≠H;omega),?_,pg (jg (jg A.only)) (by rw [<-P.out];omega) _⟩;refine (N.setV oA _).ofV fun j _=> ?_;simp only [wx];rw [<-HU.out,<-T,show t-16=k by omega,show t-7=U by have:=B4.out;omega,show t-15=k1 by have:=B3.out;omega,show t-2=I by have:=BY.out;omega];by_cases e:j=t
      .rw [Vz e,Vz e];rfl
      .rw [VV e,VV e]
     case measure=>have C:=F.out;omega
    .obtain rfl:t=64:=oA;have L:decide (((64:Nat):Int)<64)=false:=skA;obtain rfl:k=48:=oA;clear C T;obtain ⟨u,M⟩:=At (wx d 48);rw [<-M] at A;have HU:=Hd M;have HW:=Hd Y;clear M Y;have R:=A.hash;have Z:((vA 74 (hcs h r n)).toList.drop 0).take 8=vL 8 fun j=>wv (h j):=by
      rw [BS _ oA];exact IS fun j O=>by rw [VN,Gn _ _ _ O];rfl
     have c:((vA 74 (hcs h r n)).toList.drop 10).take 64=vL 64 fun j=>wv (kwd j):=by
      rw [BS _ oA];exact IS fun j O=>by rw [Qg _ _ _ O];rfl
     have B5:=Hd Z;have B6:=Hd c;clear Z c;go_upto_region 17 with (first|refine dC rfl 267 yy _ rfl rfl R B5.out (df _ _) ?_|refine ae rfl 267 yy (.tmp 12) _ (cells:=vA 8 fun j=>wv (h j)) rfl rfl rfl (Blk.new _ _ _) (ay _ _) rfl (dF fun _ _=>rfl) ?_);obtain ⟨V,D⟩:=At wr.heap.size;have C9:H<V:=(by have:=A.words.lt;omega);have f:=Blk.new wr (vA 8 fun _=> .int .u32 0) 267;rw [<-D] at f⊢;refine ag (fun J=>Li w g H h r n u J/\Blk J V (vA 8 fun j=>wv (h j)) 267) ⟨⟨(A.hash.alloc _).setRow_other _ _ oA,(A.words.alloc _).setRow_other _ _ oA,qz (nP A.only _) (by rw [<-P.out];omega) _⟩,f.setRow _⟩ ?_;clear A R D f;rintro w5 ⟨A,D⟩;have R:=A.hash;go_wp2_with (refine dC rfl 268 Bu _ rfl rfl R B6.out (df _ _) ?_);clear R;go_loopg [98] 64 (Bk4 w g H V h r n u)
     case atStart=>exact ⟨0,oA,rfl,A,D⟩
     case round=>
      clear A D;obtain ⟨t,C,rfl,A,D⟩:=hrel;by_cases G:t<64
      .have L:decide ((t:Int)<64)=true:=soA;have A4:(t:Int)<64:=oA;have F:=Hd C;clear C;obtain ⟨v,hv⟩:=At (vs h u t);rw [<-hv] at D;have HV:=Hd hv;clear hv;have l:∀W,(Instr.index 268 (.agg (vL 64 fun j=>wv (kwd j)).toArray) (.int .i64 (t:Int))).run prog W= .ok (.int .u32 (U32 (kwd t))) W:=Qd (fun j=>wv (kwd j)) t G;have C0:∀W,Old wr.drew W->W.cell? ⟨V,0,none⟩=some (.int .u32 (U32 (v 0))):=fun W h=>(D.drew.old h).atV oA rfl;have X:∀W,Old wr.drew W->W.cell? ⟨V,1,none⟩=some (.int .u32 (U32 (v 1))):=fun W h=>(D.drew.old h).atV oA rfl;have C2:∀W,Old wr.drew W->W.cell? ⟨V,2,none⟩=some (.int .u32 (U32 (v 2))):=fun W h=>(D.drew.old h).atV oA rfl;have C3:∀W,Old wr.drew W->W.cell? ⟨V,3,none⟩=some (.int .u32 (U32 (v 3))):=fun W h=>(D.drew.old h).atV oA rfl;have C4:∀W,Old wr.drew W->W.cell? ⟨V,4,none⟩=some (.int .u32 (U32 (v 4))):=fun W h=>(D.drew.old h).atV oA rfl;have C5:∀W,Old wr.drew W->W.cell? ⟨V,5,none⟩=some (.int .u32 (U32 (v 5))):=fun W h=>(D.drew.old h).atV oA rfl;have C6:∀W,Old wr.drew W->W.cell? ⟨V,6,none⟩=some (.int .u32 (U32 (v 6))):=fun W h=>(D.drew.old h).atV oA rfl;have C7:∀W,Old wr.drew W->W.cell? ⟨V,7,none⟩=some (.int .u32 (U32 (v 7))):=fun W h=>(D.drew.old h).atV oA rfl;have CW:∀W,Old wr.drew W->W.cell? ⟨H,t,none⟩=some (.int .u32 (U32 (u t))):=fun W h=>(A.words.drew.old h).atV G rfl;have D0:∀W,Old wr.drew.drew W->W.cell? ⟨V,0,none⟩=some (.int .u32 (U32 (v 0))):=fun W h=>(D.drew.drew.old h).atV oA rfl;have D1:∀W,Old wr.drew.drew W->W.cell? ⟨V,1,none⟩=some (.int .u32 (U32 (v 1))):=fun W h=>(D.drew.drew.old h).atV oA rfl;have D2:∀W,Old wr.drew.drew W->W.cell? ⟨V,2,none⟩=some (.int .u32 (U32 (v 2))):=fun W h=>(D.drew.drew.old h).atV oA rfl;go_wp2_with fail;clear l;refine aB (0::1::2::3::4::6::7::8::11::12::13::17::18::19::20::21::22::23::24::25::26::27::28::30::32::33::34::5::9::10::14::15::16::29::31::35::36::[]) krA krA cdA ?_
       repeat refine lxA ?_
       refine bh rfl rfl rfA (fun K B=> ?_);go_wp2_with fail;refine (jz (v 4) 6 6 rfl dcA _).mono ?_;rintro e w' ⟨rfl,rfl⟩;go_wp2_with fail;refine B _ _ (Old.refl _) ?_;clear B K
       repeat refine lxA ?_
       refine bh rfl rfl rfA (fun K B=> ?_);go_wp2_with fail;refine (jz (v 4) 11 11 rfl dcA _).mono ?_;rintro e w' ⟨rfl,rfl⟩;go_wp2_with fail;refine B _ _ (Old.refl _) ?_;clear B K
       repeat refine lxA ?_
       refine bh rfl rfl rfA (fun K B=> ?_);go_wp2_with fail;refine (jz (v 4) 25 25 rfl dcA _).mono ?_;rintro e w' ⟨rfl,rfl⟩;go_wp2_with fail;refine B _ _ (Old.refl _) ?_;clear B K
       repeat refine lxA ?_
       refine bJ ?_;clear C0 X C2 C3 C4 C5 C6 C7 CW;go_wp2_with fail;refine aB (0::1::2::4::5::6::9::10::11::14::15::16::17::18::19::20::21::22::23::24::25::26::27::28::29::30::3::7::8::12::13::31::32::[]) krA krA cdA ?_
       repeat refine lxA ?_
       refine bh rfl rfl rfA (fun K B=> ?_);go_wp2_with fail;refine (jz (v 0) 2 2 rfl dcA _).mono ?_;rintro e w' ⟨rfl,rfl⟩;go_wp2_with fail;refine B _ _ (Old.refl _) ?_;clear B K
       repeat refine lxA ?_
       refine bh rfl rfl rfA (fun K B=> ?_);go_wp2_with fail;refine (jz (v 0) 13 13 rfl dcA _).mono ?_;rintro e w' ⟨rfl,rfl⟩;go_wp2_with fail;refine B _ _ (Old.refl _) ?_;clear B K
       repeat refine lxA ?_
       refine bh rfl rfl rfA (fun K B=> ?_);go_wp2_with fail;refine (jz (v 0) 22 22 rfl dcA _).mono ?_;rintro e w' ⟨rfl,rfl⟩;go_wp2_with fail;refine B _ _ (Old.refl _) ?_;clear B K
       repeat refine lxA ?_
       refine bJ ?_;clear D0 D1 D2;go_wp2_with fail
       (try clear h);have q1:=Qm V;have q2:=Ql V;refine cO V (.step 0 (.step 1 (.step 2 .done))) krA krA cdA ?_
       repeat refine txA ?_
       refine am rfl rfl rfA (fun K B=> ?_);refine gY (.tmp 170) (.tmp 171) 271 271 rfl underlying271 kh rfl rfl D.drew.drew.drew (cs:=vL 7 fun j=>wv (v j)) (by rw [df];rfl) (fun j x hx=> ?_) (by rw [df,ay];omega) (by intro x hx;obtain ⟨_,_,rfl⟩:=VH.1 hx;rfl) ?_
       .have O:j<7:=(by have:=(Vm.1 hx).1;rwa [df] at this);rw [LY _ O] at hx;rw [WA,<-hx];exact D.drew.drew.drew.atV oA (by rw [VN])
       refine B _ _ (But.setRow _ _) ?_;clear B K q1 q2;refine aq ?_;have A8:cU (vA 8 fun j=>wv (v j)) 1 (vL 7 fun j=>wv (v j)).toArray=vA 8 fun j=>wv (if j=0 then v 0 else v (j-1)):=by
        rw [show (vL 7 fun j=>wv (v j)).toArray=vA 7 fun j=>wv (v j) from rfl,kS _ _ oA];refine BU fun j O=> ?_;by_cases e:j=0
        .subst e;rfl
        .rw [Vz ⟨oA,oA⟩,VV e]
       rw [A8];clear A8;refine kr (fun J=>Li w g H h r n u J/\Blk J V (vA 8 fun j=>wv (if j=0 then v 0 else v (j-1))) 267) ⟨⟨(A.hash.drew.drew.drew).setRow_other _ _ oA,(A.words.drew.drew.drew).setRow_other _ _ oA,qz (jg (jg (jg A.only))) (by rw [<-P.out];omega) _⟩,D.drew.drew.drew.setRow _⟩ ?_;clear A D;rintro w6 ⟨A,D⟩;have c4:w6.cell? ⟨V,4,none⟩=some (.int .u32 (U32 (v 3))):=D.atV oA rfl;have c0:w6.cell? ⟨V,0,none⟩=some (.int .u32 (U32 (v 0))):=D.atV oA rfl;have f0:=D.free;go_wp2_with fail;clear c4 c0 f0;go_roundg (gk-1)
       case rel=>
        have C:=F.out;refine ⟨t+1,oA,gnA,⟨(A.hash.other _ _ (by show g≠V;omega)).other _ _ (by show g≠V;omega),(A.words.other _ _ (by show H≠V;omega)).other _ _ (by show H≠V;omega),pg (pg A.only (by rw [<-P.out];omega) _) (by rw [<-P.out];omega) _⟩,?_⟩;refine ((D.setV oA _).setV oA _).ofV fun j O=> ?_;rw [vs,<-HV.out];unfold rd uu xx;by_cases e0:j=0
        .subst e0;rfl
        .by_cases e4:j=4
         .subst e4;rfl
         .simp only [VV e0,VV e4]
       case measure=>have C:=F.out;omega
      .obtain rfl:t=64:=oA;have L:decide (((64:Nat):Int)<64)=false:=skA;clear C;go_wp2_with (refine ap rfl 267 yy _ rfl rfl D (ay _ _) ?_);have hR:Bk5 w g h r n u 8 (.int .i64 0) wr:=⟨0,oA,rfl,A.hash,A.only⟩;clear A D;go_loopg [184] 8 (Bk5 w g h r n u)
       case atStart=>exact hR
       case round=>
        clear hR;obtain ⟨t,C,rfl,hB,ho⟩:=hrel;by_cases G:t<8
        .have L:decide ((t:Int)<8)=true:=soA;have A4:(t:Int)<8:=oA;have F:=Hd C;clear C;have l:∀W,(Instr.index 267 (.agg (vA 8 fun j=>wv (vs h u 64 j))) (.int .i64 (t:Int))).run prog W= .ok (.int .u32 (U32 (vs h u 64 t))) W:=idx8 (fun j=>wv (vs h u 64 j)) t G;have X:∀W,Old wr.drew W->W.cell? ⟨g,t,none⟩=some (.int .u32 (U32 (h t))):=fun W hW=>(hB.drew.old hW).atV oA (by rw [Gn _ _ _ G,VV oA]);go_wp2_with fail;clear l;refine ah true Old Old.refl Old.trans (.step 0 (.step 1 (.step 2 (.step 3 (.step 4 (.step 5 (.step 6 (.step 7 (.step 8 (.step 9 (.step 10 (.step 11 .done)))))))))))) krA krA cdA ?_
         repeat refine txA ?_
         have N:=hB.drew;have f3:=N.free;have c3:=N.atV (show t<74 by omega) rfl;refine az rfl rfl rfA (fun K B=> ?_);go_wp2_with fail;refine aq ?_;clear f3 c3;go_wp2_with fail;go_roundg (gk-1)
         case rel=>
          have C:=F.out;refine ⟨t+1,oA,gnA,?_,gv (jg ho) t _⟩;refine (N.setV oA _).ofV fun j _=> ?_;by_cases e:j=t
          .subst e;rw [Vz rfl,Gn _ _ _ G,Vz oA]
          .rw [VV e];unfold hcs;by_cases E:j<8
           .rw [Vz E,Vz E];show wv (if j<t then h j+vs h u 64 j else h j)=wv (if j<t+1 then h j+vs h u 64 j else h j);by_cases e3:j<t
            .rw [Vz e3,Vz oA]
            .rw [VV e3,VV oA]
           .rw [VV E,VV E]
         case measure=>have C:=F.out;omega
        .obtain rfl:t=8:=oA;have L:decide (((8:Nat):Int)<8)=false:=skA;clear C;go_wp2_with fail;go_end0;refine ⟨rfl,hB.ofV fun j _=> ?_,ho⟩;unfold hcs;by_cases E:j<8
         .rw [Vz E,Vz E];show wv (if j<8 then h j+vs h u 64 j else h j)=wv (cmp h (wd m 0) j);rw [Vz E,Ik (w':=wd m 0) HU.out (fun t G=>(Wv HW.out t).trans (Vz G)) j E]
         .rw [VV E,VV E]
end
section
open Go.RowKit
theorem dS:bC prog 22 5 1 1:=bC.mk (z:= .int .u8 0) underlying22 krA rfl oA
theorem jI:(Tryz.prog.info? 5).map (·.size)=some 1:=by kernel_rfl
structure HsI (w:As) (B g:Nat) (l:Le) (i:Nat) (a:Lt) (n c:Nat):Prop where
 hash:Blk w g (vA 74 (hcs (stt l i) (.slice a n c) (.int .u64 (l.length:Int)))) 270
 row:Mid w B 5 a n c ((l.drop (64*i)).map bv)
 lt:l.length<140737488355000
def cW (w:As) (B g:Nat) (l:Le) (a:Lt) (n c:Nat):Prop:=HsI w B g l (l.length/64) a n c
structure pG (w w':As) (g:Nat) (row:Option Nat):Prop where
 os:w'.os=w.os
 tape:w'.tape=w.tape
 output:w'.output=w.output
 size:w.heap.size<=w'.heap.size
 block:∀b,b<w.heap.size->b≠g->row≠some b->w'.heap[b]? =w.heap[b]?
theorem pG.refl (w:As) (g:Nat) (row:Option Nat):pG w w g row:=⟨rfl,rfl,rfl,VU _,fun _ _ _ _=>rfl⟩
theorem pG.only {w w1 B:As} {g:Nat} {row:Option Nat} (h:pG w w1 g row) (A:w1.grownBy B (some g)):pG w B g row:=
 ⟨A.os.trans h.os,A.tape.trans h.tape,A.output.trans h.output,Vd h.size A.size,fun b C D E=>(A.block b (VP C h.size) (by simpa using D)).trans (h.block b C D E)⟩
theorem pG.grown {w w1 D:As} {g:Nat} {row B:Option Nat} (h:pG w w1 g row) (A:w1.grownBy D B) (F:B=none\/B=row\/∃b,B=some b/\w.heap.size<=b):pG w D g row:=
 ⟨A.os.trans h.os,A.tape.trans h.tape,A.output.trans h.output,Vd h.size A.size,fun b E G C=>(A.block b (VP E h.size) (by
  rcases F with rfl|rfl|⟨I,rfl,H⟩
  .simp
  .exact fun e=>C e.symm
  .simp;omega)).trans (h.block b E G C)⟩
theorem pG.below {w w':As} {B g:Nat} {row:Option Nat} (h:pG w w' g row) (C:B<=g) (A:∀b,row=some b->B<=b) (D:B<=w.heap.size):Below B w w':=
 ⟨h.os,h.tape,h.output,h.size,fun b E=>h.block b oA oA (fun e=>by have:=A b e;omega)⟩
theorem pG.blk {w w':As} {g:Nat} {row:Option Nat} (h:pG w w' g row) {b:Nat} {cs:AS} {t:TypeId} (A:Blk w b cs t) (B:b≠g) (C:row≠some b):Blk w' b cs t:=(h.block b A.lt B C).trans A
theorem Fg {l b:Le} {i:Nat} (h:64*i<=l.length):∀j,j<8->stt (l++b) i j=stt l i j:=
 Hj i fun k A=>by
  unfold byt;rw [VG,VG,Vo oA]
theorem Hy {h h':Nat->BitVec 32} {r n:Value} (e:∀j,j<8->h j=h' j) (j:Nat):hcs h r n j=hcs h' r n j:=by
 unfold hcs;by_cases A:j<8
 .rw [Vz A,Vz A,e j A]
 .rw [VV A,VV A]
theorem ur (h:Nat->BitVec 32) (r n v:Value) (j:Nat):(if j=8 then v else hcs h r n j)=hcs h v n j:=by
 unfold hcs;by_cases e:j=8
 .subst e;simp
 .rw [VV e];by_cases A:j<8
  .rw [Vz A,Vz A]
  .rw [VV A,VV A,VV e,VV e]
theorem Gm (h:Nat->BitVec 32) (r n v:Value) (j:Nat):(if j=9 then v else hcs h r n j)=hcs h r v j:=by
 unfold hcs;by_cases e:j=9
 .subst e;simp
 .rw [VV e];by_cases A:j<8
  .rw [Vz A,Vz A]
  .rw [VV A,VV A];by_cases B:j=8
   .rw [Vz B,Vz B]
   .rw [VV B,VV B,VV e,VV e]
theorem yd (h:Nat->BitVec 32) (r n:Value):hcs h r n 8=r:=by simp [hcs]
theorem MJ (h:Nat->BitVec 32) (r n:Value):hcs h r n 9=n:=by simp [hcs]
def Wr1 (w:As) (B g:Nat) (all:Le) (row:Option Nat) (f:Nat) (wr:As):Prop:=
 ∃(i:Nat) (a:Lt) (n c:Nat),f+i=all.length/64/\n+64*i=all.length/\HsI wr B g all i a n c/\pG w wr g row/\(bI a c=none\/bI a c=row\/∃b,bI a c=some b/\w.heap.size<=b)
def Nx (w:As) (B g:Nat) (all:Le) (row:Option Nat) (e:Ending) (w':As):Prop:=
 ∃(a:Lt) (n c:Nat),e= .returned (.int .i64 0)/\cW w' B g all a n c/\pG w w' g row/\(bI a c=none\/bI a c=row\/∃b,bI a c=some b/\w.heap.size<=b)
theorem Kg {h:Nat->BitVec 32} {a:Lt} {n c:Nat} {N:Int} {j:Nat} {x:UInt8}:hcs h (.slice a n c) (.int .u64 N) j≠bv x:=by
 unfold hcs bv wv;by_cases A:j<8
 .rw [Vz A];simp
 .rw [VV A];by_cases B:j=8
  .rw [Vz B];simp
  .rw [VV B];by_cases C:j=9
   .rw [Vz C];simp
   .rw [VV C];simp
theorem AW {w:As} {g b o:Nat} {h:Nat->BitVec 32} {a:Lt} {n c:Nat} {N:Int} {l:Le} (B:Blk w g (vA 74 (hcs h (.slice a n c) (.int .u64 N))) 270) (C:aj w (some ⟨b,o,none⟩) l) (D:0<l.length):b≠g:=by
 rintro rfl;obtain ⟨F,G,e,A⟩:=C 0 (by simpa using D);cases e;rw [B.rule] at A;by_cases E:o+0<74
 .rw [mJ _ E] at A;simp only [Vu,WL] at A;exact Kg A
 .rw [BT _ oA] at A;cases A
theorem aj.hash_set {w:As} {g:Nat} {h:Nat->BitVec 32} {a:Lt} {n c:Nat} {N:Int} {A:Lt} {l:Le} (B:aj w A l) (E:Blk w g (vA 74 (hcs h (.slice a n c) (.int .u64 N))) 270) (i:Nat) (v:Value):aj (w.setCell ⟨g,i,none⟩ v) A l:=by
 intro j C;obtain ⟨b,o,rfl,F⟩:=B j C;have D:=AW E B (by simp at C;omega);exact ⟨b,o,rfl,(VE (a:=⟨b,o+j,none⟩) (Vq w ⟨g,i,none⟩ b v D)).trans F⟩
theorem CA {w:As} {B g:Nat} {a:Lt} {n c:Nat} {vs:AT} {cs:AS} (C:Mid w B 5 a n c vs) (D:Blk w g cs 270):bI a c≠some g:=fun e=>by
 obtain ⟨_,_,E,A⟩:=C.lt e;exact Blk.ne A D dcA rfl
theorem im (B g:Nat) (l b:Le) (a:Lt) (n c:Nat) (ba:Lt) (bn bc:Nat) (w:As) (F:cW w B g l a n c) (hb:aj w ba b) (B0:b.length=bn) (B1:l.length+bn<140737488355000) (hB:B<=w.heap.size):
  Calls prog 185 #[.pointer (some ⟨g,0,none⟩),.slice ba bn bc] w (Nx w B g (l++b) (bI a c)):=by
 have N:n+64*(l.length/64)=l.length:=(by have:=F.row.len;rw [<-this];simp;omega);have C7:w.cell? ⟨g,8,none⟩=some (.slice a n c):=F.hash.atV oA (yd _ _ _);have B2:w.cell? ⟨g,9,none⟩=some (.int .u64 (l.length:Int)):=F.hash.atV oA (MJ _ _ _);have I:=F.hash.free;obtain ⟨L,U⟩:=At l.length;obtain ⟨H,R⟩:=At (l.length/64);have G:=F.hash;have Z:=F.row;rw [<-R] at G Z;rw [<-U] at B2 B1 N G R;have D5:=G.lt;have d:Blk (w.setCell ⟨g,9,none⟩ (.int .u64 ((L:Int)+(bn:Int)))) g (vA 74 (hcs (stt l H) (.slice a n c) (.int .u64 ((L:Int)+(bn:Int))))) 270:=(G.setV oA _).ofV fun j _=>Gm _ _ _ _ j;have Y:=Z.setCell G dcA 9 (.int .u64 ((L:Int)+(bn:Int)));have B3:=hb.hash_set G 9 (.int .u64 ((L:Int)+(bn:Int)));have B4:(w.setCell ⟨g,9,none⟩ (.int .u64 ((L:Int)+(bn:Int)))).heap.size=w.heap.size:=skA;have p:=Hd U;have HN:=Hd N;have s:=Hd B0;have y:=Hd R;have B5:=Hd B4;have C8:n<=L:=oA;clear U N B0 R B4;go_enter func185,ntmps185;go_wp2_with (at_builtin;refine dq rfl (.tmp 21) (.tmp 22) 22 rfl dS rfl Y rfl B3 (by rw [lmA];exact s.out) (cV _) mxA oA (by rw [B5.out];exact hB) ?_);intro D c2 O A0 A1 B6;have A7:pG w O g (bI a c):=((pG.refl w g _).only (gv (Wd _ _) 9 _)).grown A1 (.inr (.inl rfl));have J:=d.grown A1 (CA Y d);have A8:bI D c2=none\/bI D c2=bI a c\/∃q,bI D c2=some q/\w.heap.size<=q:= .inr B6;have C9:=J.free;have A2:O.cell? ⟨g,8,none⟩=some (.slice a n c):=J.atV oA (yd _ _ _);clear d Y B3 A1 B6 F G Z C7 B2 I;go_wp2_with fail;clear C9 A2;have E:(l++b).length=L+bn:=(by rw [laA,s.out,<-p.out]);have A5:HsI (O.setCell ⟨g,8,none⟩ (.slice D (n+bn) c2)) B g (l++b) H D (n+bn) c2:=by
  have hk:=y.out;have U:=p.out;refine ⟨(J.setV oA _).ofV fun j _=> ?_,?_,by rw [E];omega⟩
  .rw [ur,E];refine (Hy (h':=stt (l++b) H) (fun j hj=>(Fg (b:=b) oA j hj).symm) j).trans ?_;rw [show ((L+bn:Nat):Int)=(L:Int)+(bn:Int) by omega]
  .rw [XO oA,VF];rw [<-YG] at A0;exact A0.setCell J dcA 8 _
 have A9:=A7.only (gv (Wd O _) 8 (.slice D (n+bn) c2));have M:Wr1 w B g (l++b) (bI a c) ((l++b).length/64-H) (O.setCell ⟨g,8,none⟩ (.slice D (n+bn) c2)):=by
  have hk:=y.out;have N:=HN.out;exact ⟨H,D,n+bn,c2,by rw [E];omega,by rw [E,<-N,<-hk];omega,A5,A9,A8⟩
 clear A5 A9 A7 J A0 A8;obtain ⟨row,A3⟩:=At (bI a c);rw [<-A3] at M;have DO:=Hd A3;obtain ⟨C,m⟩:=At (l++b);rw [<-m] at M E;have D0:=Hd m;have C1:C.length<140737488355000:=oA;have D4:=Hd E;clear E A3 m p HN s y B5 C8 B1;obtain ⟨f0,B7⟩:=At (C.length/64-H);rw [<-B7] at M;clear B7;go_loopg [31] f0 (fun f _ wr=>Wr1 w B g C row f wr)
 case atStart=>exact M
 case round=>
  clear M;obtain ⟨i,a,n,c,V,S,A,I,hr⟩:=hrel;have A2:wr.cell? ⟨g,8,none⟩=some (.slice a n c):=A.hash.atV oA (yd _ _ _);have D6:=A.row.le;have D1:=A.row.max;unfold maxLen at D1;have HF:=Hd V;have B9:=Hd S;clear V;by_cases CK:64<=n
  .have t1:decide ((64:Int)<=(n:Int))=true:=soA;have D7:(64:Int)<=(c:Int):=oA;have D8:(64:Int)<=(n:Int):=oA;obtain ⟨r,o,D2⟩:∃r o,a=some ⟨r,o,none⟩:=by
    obtain ⟨r,o,_,P,_⟩:=A.row.row oA;exact ⟨r,o,P⟩
   subst D2;have hcut:∀W,(Instr.sliceAt 22 (.slice (some ⟨r,o,none⟩) n c) (some (.int .i64 64)) none none).run prog W= .ok (.slice (lF (some ⟨r,o,none⟩) c 64) (n-64) (c-64)) W:=oq underlying22 jI _ n c 64 CK;have C3:=Hd hcut;clear hcut S;have A6:aj wr (some ⟨r,o,none⟩) ((C.drop (64*i)).take 64):=by
    have:=A.row.read.take 64;rwa [<-WB] at this
   have CW:((C.drop (64*i)).take 64).length=64:=by
    have:=A.row.len;rw [lmA] at this;rw [ltA,this];omega
   have C0:r≠g:=by
    have:=CA A.row A.hash;rw [jf oA] at this;simpa using this
   go_wp2_with fail;refine (Et g (stt C i) _ _ _ c _ wr A.hash A6 CW oA mxA (fun b o e=>by cases e;exact C0)).mono ?_;rintro e w4 ⟨rfl,T,A4⟩;have C2:Mid w4 B 5 (some ⟨r,o,none⟩) n c ((C.drop (64*i)).map bv):=A.row.keep fun q X=>by
    rw [jf oA] at X;cases X;exact A4.block r (A.row.lt (jf oA)).2.1 (by simpa using C0)
   have C4:w4.cell? ⟨g,8,none⟩=some (.slice (some ⟨r,o,none⟩) n c):=T.atV oA (yd _ _ _);have C5:=T.free;have C6:=I.only A4;have hcut:=C3.out;have BY:∀j,j<8->cmp (stt C i) (wd ((C.drop (64*i)).take 64) 0) j=stt C (i+1) j:=fun j hj=>by
    rw [stt];exact zQ (fun _ _=>rfl) (fun t ht=>IP (fun q X=>by
     unfold byt;rw [VN,VG,VG,WF X,Wh]) ht) j hj
   have D3:=Hd BY;clear BY A2 A I A6 CW A4;go_wp2_with fail;clear C4 C5 hcut;go_roundg (gk-1)
   case rel=>
    have V:=HF.out;have S:=B9.out;refine ⟨i+1,lF (some ⟨r,o,none⟩) c 64,n-64,c-64,oA,oA,⟨?_,?_,C1⟩,C6.only (gv (Wd w4 _) 8 _),?_⟩
    .refine (T.setV oA _).ofV fun j _=> ?_;rw [ur];exact Hy D3.out j
    .have:=(C2.cut 64 CK).setCell T dcA 8 (.slice (lF (some ⟨r,o,none⟩) c 64) (n-64) (c-64));rw [<-YG,XW] at this;exact this
    .rcases ze (some ⟨r,o,none⟩) c 64 with P|P
     .exact .inl P
     .rw [P];exact hr
   case measure=>have V:=HF.out;have S:=B9.out;omega
  .have t1:decide ((64:Int)<=(n:Int))=false:=soA;go_wp2_with fail;go_ret;have hi:i=C.length/64:=oA;rw [<-D0.out,<-DO.out];exact ⟨a,n,c,rfl,by unfold cW;rw [<-hi];exact A,I,hr⟩
end
end Go.Proofs.YtioigihakjlopaaGreat

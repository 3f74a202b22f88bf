import Derived.Test.YtioigihakjlopaaGreatVF03
namespace Go.Proofs.YtioigihakjlopaaGreat
open Go.Proofs.Tryz
set_option linter.unusedVariables false
set_option linter.unusedSimpArgs false
set_option maxHeartbeats 16000000
set_option maxRecDepth 100000
section
open Go.RowKit
def pwB (third:Bool) (y x:Nat):Bool:=if third then decide (y*y*y<=x*79228162514264337593543950336) else decide (y*y<=x*18446744073709551616)
def mp (l:List Nat) (x:Nat):List Nat:=if l.all (fun p=>x%p !=0) then l++ [x] else l
def ps:Nat->List Nat
 |0=> []
 |k+1=>mp (ps k) (k+2)
theorem sJ (l:List Nat) (x:Nat):l<+:mp l x:=by
 unfold mp;split
 .exact List.prefix_append _ _
 .exact List.prefix_refl _
theorem ut (k:Nat):∀j,ps k<+:ps (k+j)
 |0=>List.prefix_refl _
 |j+1=>(ut k j).trans (sJ _ _)
theorem Ih {k m:Nat} (h:k<=m):ps k<+:ps m:=by
 have:=ut k (m-k);rwa [Nat.add_sub_cancel' h] at this
theorem wj (k:Nat):(ps (k+1)).length<=(ps k).length+1:=by
 rw [ps,mp];split<;>simp
theorem FZ (k:Nat):∀p∈ps k,2<=p/\p<k+2:=by
 induction k with
 |zero=>intro p h;simp [ps] at h
 |succ k ih=>
  intro p h;rw [ps,mp] at h;split at h
  .rcases VQ.1 h with h|h
   .have:=ih p h;omega
   .simp at h;omega
  .have:=ih p h;omega
theorem Ga (k:Nat):(ps k).length<=k:=by
 induction k with
 |zero=>simp [ps]
 |succ k ih=>have:=wj k;omega
def pF:List Nat:=[2,3,5,7,11,13,17,19,23,29,31,37,41,43,47,53,59,61,67,71,73,79,83,89,97,101,103,107,109,113,127,131,137,139,149,151,157,163,167,173,179,181,191,193,197,199,211,223,227,229,233,239,241,251,257,263,269,271,277,281,283,293,307,311]
def wO:Nat->Nat->List Nat->Bool
 |0,_,l=>l==pF
 |n+1,k,l=>wO n (k+1) (mp l (k+2))
theorem nK:∀(n k:Nat),wO n k (ps k)=true->ps (k+n)=pF
 |0,k,h=>by simpa [wO] using h
 |n+1,k,h=>by
  have:=nK n (k+1) h;rwa [show k+1+n=k+(n+1) by omega] at this
theorem BH:ps 310=pF:=nK 310 0 dkA
theorem KL {k:Nat} (h:(ps k).length<64):k<310:=by
 rcases Nat.lt_or_ge k 310 with h1|h1
 .exact h1
 .have:=(Ih h1).length_le;rw [BH] at this;have e:pF.length=64:=rfl;omega
theorem nb {k n:Nat} (h:(ps k).length=n) (hn:n<=64):ps k=pF.take n:=by
 rcases Nat.lt_or_ge k 311 with h1|h1
 .have:=Ih (show k<=310 by omega);rw [BH] at this;rw [<-h];exact List.prefix_iff_eq_take.1 this
 .have:=Ih (show 310<=k by omega);rw [BH] at this;have e:pF.length=64:=rfl;have e2:=this.length_le;have e3:pF=ps k:=this.eq_of_length oA;rw [<-e3,show n=64 by omega];rfl
def bs (third:Bool) (x:Nat):Nat->Nat->Nat->Nat
 |0,lo,_=>lo
 |f+1,lo,hi=>if 1<hi-lo then (if pwB third (lo+(hi-lo)/2) x then bs third x f (lo+(hi-lo)/2) hi else bs third x f lo (lo+(hi-lo)/2)) else lo
def rt (third:Bool) (x:Nat):Nat:=bs third x 64 0 85899345920
theorem Jw (third:Bool) (x lo hi:Nat) (h:¬1<hi-lo):∀f,bs third x f lo hi=lo
 |0=>rfl
 |f+1=>by rw [bs,if_neg h]
def Ee (third:Bool) (l:List Nat):List (BitVec 32):=l.map fun x=>BitVec.ofNat 32 (rt third x)
def kLit:List (BitVec 32):=Ee true pF
def hLit:List (BitVec 32):=Ee false (pF.take 8)
def JV:List (BitVec 32):=[0x428a2f98#32,0x71374491#32,0xb5c0fbcf#32,0xe9b5dba5#32,0x3956c25b#32,0x59f111f1#32,0x923f82a4#32,0xab1c5ed5#32,0xd807aa98#32,0x12835b01#32,0x243185be#32,0x550c7dc3#32,0x72be5d74#32,0x80deb1fe#32,0x9bdc06a7#32,0xc19bf174#32,0xe49b69c1#32,0xefbe4786#32,0x0fc19dc6#32,0x240ca1cc#32,0x2de92c6f#32,0x4a7484aa#32,0x5cb0a9dc#32,0x76f988da#32,0x983e5152#32,0xa831c66d#32,0xb00327c8#32,0xbf597fc7#32,0xc6e00bf3#32,0xd5a79147#32,0x06ca6351#32,0x14292967#32,0x27b70a85#32,0x2e1b2138#32,0x4d2c6dfc#32,0x53380d13#32,0x650a7354#32,0x766a0abb#32,0x81c2c92e#32,0x92722c85#32,0xa2bfe8a1#32,0xa81a664b#32,0xc24b8b70#32,0xc76c51a3#32,0xd192e819#32,0xd6990624#32,0xf40e3585#32,0x106aa070#32,0x19a4c116#32,0x1e376c08#32,0x2748774c#32,0x34b0bcb5#32,0x391c0cb3#32,0x4ed8aa4a#32,0x5b9cca4f#32,0x682e6ff3#32,0x748f82ee#32,0x78a5636f#32,0x84c87814#32,0x8cc70208#32,0x90befffa#32,0xa4506ceb#32,0xbef9a3f7#32,0xc67178f2#32]
def JW:List (BitVec 32):=[0x6a09e667#32,0xbb67ae85#32,0x3c6ef372#32,0xa54ff53a#32,0x510e527f#32,0x9b05688c#32,0x1f83d9ab#32,0x5be0cd19#32]
theorem IP:kLit=JV:=by decide+kernel
theorem IY:hLit=JW:=by decide+kernel
theorem Oz {k:Nat} (h:(ps k).length=64):Ee true (ps k)=JV:=by rw [nb h oA,<-IP];rfl
theorem OA {k:Nat} (h:(ps k).length=8):Ee false (ps k)=JW:=by rw [nb h oA,<-IY];rfl
open Go.RowKit
theorem xg (x:Nat) (h:x<2^64):bits .and .u64 (x:Int) 4294967295=((x%4294967296:Nat):Int):=by
 rw [vh];have e:(BitVec.ofInt 64 (x:Int)&&&BitVec.ofInt 64 4294967295).toNat=x%4294967296:=by
  rw [BitVec.toNat_and];have h1:(BitVec.ofInt 64 (x:Int)).toNat=x:=(by rw [XT,We];omega);have h2:(BitVec.ofInt 64 4294967295).toNat=2^32-1:=dcA;rw [h1,h2,Nat.and_two_pow_sub_one_eq_mod]
 show ((BitVec.toNat _:Nat):Int)=_;rw [e]
theorem eH (x:Nat):IntKind.u64.wrap (x:Int)=((x%2^64:Nat):Int):=by
 simp [IntKind.wrap,IntKind.bits,IntKind.signed]
theorem fV (x y:Nat):IntKind.u64.wrap ((x:Int)*(y:Int))=((x*y%2^64:Nat):Int):=by
 rw [<-eH];norm_cast
theorem uM (x1 x0 y1 y0 P:Nat):(x1*P+x0)*(y1*P+y0)=x1*y1*(P*P)+(x1*y0+x0*y1)*P+x0*y0:=by
 simp only [Ws,Nat.mul_add];have e1:x1*P*(y1*P)=x1*y1*(P*P):=Nat.mul_mul_mul_comm _ _ _ _;have e2:x1*P*y0=x1*y0*P:=(by rw [Nat.mul_right_comm]);have e3:x0*(y1*P)=x0*y1*P:=(by rw [Nat.mul_assoc]);omega
theorem pS (x y:Nat) (w:World) (hx:x<2^64) (hy:y<2^64):
  Calls prog 210 #[.int .u64 (x:Int),.int .u64 (y:Int)] w fun e w'=>e= .returned (.tuple #[.int .u64 ((x*y/2^64:Nat):Int),.int .u64 ((x*y%2^64:Nat):Int)])/\w=w':=by
 obtain ⟨x1,hx1⟩:=Le (x/4294967296);obtain ⟨x0,hx0⟩:=Le (x%4294967296);obtain ⟨y1,hy1⟩:=Le (y/4294967296);obtain ⟨y0,hy0⟩:=Le (y%4294967296);have bd:∀p q:Nat,p<=4294967295->q<=4294967295->p*q<=18446744065119617025:=fun p q h1 h2=>XY h1 h2;have b00:=bd x0 y0 oA oA;have b10:=bd x1 y0 oA oA;have b01:=bd x0 y1 oA oA;have b11:=bd x1 y1 oA oA;have hxy:=uM x1 x0 y1 y0 4294967296;rw [show x1*4294967296+x0=x by omega,show y1*4294967296+y0=y by omega] at hxy;have m00:=fV x0 y0;have m10:=fV x1 y0;have m01:=fV x0 y1;have m11:=fV x1 y1;have mxy:=fV x y;obtain ⟨a,ha⟩:=Le (x0*y0);obtain ⟨b,hb⟩:=Le (x1*y0);obtain ⟨c,hc⟩:=Le (x0*y1);obtain ⟨d,hd⟩:=Le (x1*y1);rw [<-ha] at b00 m00 hxy;rw [<-hb] at b10 m10 hxy;rw [<-hc] at b01 m01 hxy;rw [<-hd] at b11 m11 hxy;rw [Wh oA] at m00 m10 m01 m11;obtain ⟨t,ht⟩:=Le (b+a/4294967296);obtain ⟨t0,ht0⟩:=Le (t%4294967296);obtain ⟨t1,ht1⟩:=Le (t/4294967296);obtain ⟨s,hs⟩:=Le (t0+c);obtain ⟨u,hu⟩:=Le (d+t1);obtain ⟨v,hv⟩:=Le (u+s/4294967296);obtain ⟨r,hr⟩:=Le (x*y%2^64);have HV:v=x*y/2^64:=(by rw [hxy];omega);have q1:(x:Int)/4294967296=(x1:Int):=oA;have q2:(y:Int)/4294967296=(y1:Int):=oA;have a1:=xg x hx;have a2:=xg y hy;rw [<-hx0] at a1;rw [<-hy0] at a2;have a3:=xg t oA;rw [<-ht0] at a3;have w1:IntKind.u64.wrap ((b:Int)+(a:Int)/4294967296)=(t:Int):=(by rw [show (b:Int)+(a:Int)/4294967296=((t:Nat):Int) by omega,eH];omega);have w2:(t:Int)/4294967296=(t1:Int):=oA;have w3:IntKind.u64.wrap ((t0:Int)+(c:Int))=(s:Int):=(by rw [show (t0:Int)+(c:Int)=((s:Nat):Int) by omega,eH];omega);have w4:IntKind.u64.wrap ((d:Int)+(t1:Int))=(u:Int):=(by rw [show (d:Int)+(t1:Int)=((u:Nat):Int) by omega,eH];omega);have w5:IntKind.u64.wrap ((u:Int)+(s:Int)/4294967296)=(v:Int):=(by rw [show (u:Int)+(s:Int)/4294967296=((v:Nat):Int) by omega,eH];omega);rw [<-HV,<-hr];rw [<-hr] at mxy;clear hx0 hx1 hy0 hy1 ha hb hc hd ht ht0 ht1 hs hu hv hr HV hxy bd;go_enter func210,ntmps210;go_wp2_with fail;go_ret2;exact ⟨rfl,rfl⟩
theorem Ev (y x:Nat) (w:World) (hy:y<2^37) (hx:x<65536):
  Calls prog 204 #[.int .u64 (y:Int),.int .u64 (x:Int),.bool false] w fun e w'=>e= .returned (.bool (pwB false y x))/\w=w':=by
 have hm:=pS y y w oA oA;have hp:pwB false y x=decide (y*y<=x*18446744073709551616):=rfl;obtain ⟨h,hh⟩:=Le (y*y/2^64);obtain ⟨l,hl⟩:=Le (y*y%2^64);rw [<-hh,<-hl] at hm;obtain ⟨P,hP⟩:=Le (y*y);rw [<-hP] at hh hl hp;have HM:=Hd hm;clear hm hP;by_cases h1:h<x
 .have HR:=Hd (show pwB false y x=true by rw [hp];simp;omega);have t1:decide (h<x)=true:=(by simpa using h1);clear hh hl hp;go_enter func204,ntmps204;go_wp2_with fail;refine HM.out.mono ?_;rintro e w' ⟨rfl,rfl⟩;go_wp2_with fail;go_ret;exact ⟨by rw [HR.out];rfl,rfl⟩
 .by_cases h2:h=x/\l=0
  .obtain ⟨rfl,rfl⟩:=h2;have HR:=Hd (show pwB false y h=true by rw [hp];simp;omega);clear hh hl hp;go_enter func204,ntmps204;go_wp2_with fail;refine HM.out.mono ?_;rintro e w' ⟨rfl,rfl⟩;go_wp2_with fail;go_ret;exact ⟨by rw [HR.out];rfl,rfl⟩
  .have HR:=Hd (show pwB false y x=false by rw [hp];simp;omega);have t1:decide (h<x)=false:=(by simpa using h1);by_cases h3:h=x
   .subst h3;have t3:((l:Int)==0)=false:=soA;clear hh hl hp h1 h2;go_enter func204,ntmps204;go_wp2_with fail;refine HM.out.mono ?_;rintro e w' ⟨rfl,rfl⟩;go_wp2_with fail;go_ret;exact ⟨by rw [HR.out];rfl,rfl⟩
   .have t3:((h:Int)==(x:Int))=false:=soA;clear hh hl hp h1 h2;go_enter func204,ntmps204;go_wp2_with fail;refine HM.out.mono ?_;rintro e w' ⟨rfl,rfl⟩;go_wp2_with fail;go_ret;exact ⟨by rw [HR.out];rfl,rfl⟩
theorem rG (y h l a b C:Nat) (P:Nat) (hP:P=y*y) (hh:h=P/18446744073709551616) (hl:l=P%18446744073709551616) (ha:a=l*y/18446744073709551616) (hb:b=l*y%18446744073709551616) (hC:C=h*y+a):y*y*y=C*18446744073709551616+b:=by
 have e1:P=h*18446744073709551616+l:=(by rw [hh,hl];exact (Nat.div_add_mod' P 18446744073709551616).symm);have e3:l*y=a*18446744073709551616+b:=(by rw [ha,hb];exact (Nat.div_add_mod' (l*y) 18446744073709551616).symm);rw [<-hP,e1,Ws,Nat.mul_right_comm,e3,hC,Ws,WP]
theorem Ew (y x:Nat) (w:World) (hy:y<2^37) (hx:x<65536):
  Calls prog 204 #[.int .u64 (y:Int),.int .u64 (x:Int),.bool true] w fun e w'=>e= .returned (.bool (pwB true y x))/\w=w':=by
 have hm:=pS y y w oA oA;have hp:pwB true y x=decide (y*y*y<=x*79228162514264337593543950336):=rfl;obtain ⟨h,hh⟩:=Le (y*y/2^64);obtain ⟨l,hl⟩:=Le (y*y%2^64);rw [<-hh,<-hl] at hm;have hm2:=pS l y w oA oA;obtain ⟨a,ha⟩:=Le (l*y/2^64);obtain ⟨b,hb⟩:=Le (l*y%2^64);rw [<-ha,<-hb] at hm2;have hyy:y*y<=2^37*2^37:=XY oA oA;have hh2:h<=1024:=oA;have hhy:h*y<=1024*2^37:=XY oA oA;have hly:l*y<=2^64*2^37:=XY oA oA;obtain ⟨C,hC⟩:=Le (h*y+a);have hcube:=rG y h l a b C (y*y) rfl hh hl ha hb hC;rw [hcube] at hp;have k1:=fV h y;rw [Wh oA] at k1;obtain ⟨q,hq⟩:=Le (h*y);rw [<-hq] at k1 hC hhy;have k2:IntKind.u64.wrap ((q:Int)+(a:Int))=(C:Int):=(by rw [show (q:Int)+(a:Int)=((C:Nat):Int) by omega,eH];omega);have hCl:C<2^48:=oA;have hbl:b<2^64:=oA;obtain ⟨c1,hc1⟩:=Le (C/4294967296);have k3:(C:Int)/4294967296=(c1:Int):=oA;obtain ⟨s,hs⟩:=Le (C*4294967296%18446744073709551616);have k4:(C:Int)*4294967296%18446744073709551616=(s:Int):=oA;have k5:IntKind.u64.wrap ((C:Int)*4294967296)=(s:Int):=(by rw [show (C:Int)*4294967296=((C*4294967296:Nat):Int) by omega,eH,hs]);have HM:=Hd hm;have HM2:=Hd hm2;clear hm hm2 hh hl ha hb hC hcube hq hyy hly hhy;by_cases h1:c1<x
 .have HR:=Hd (show pwB true y x=true by rw [hp];exact VO oA);have t1:decide (c1<x)=true:=(by simpa using h1);clear hp hc1 hs;go_enter func204,ntmps204;go_wp2_with fail;refine HM.out.mono ?_;rintro e w' ⟨rfl,rfl⟩;go_wp2_with fail;refine HM2.out.mono ?_;rintro e w' ⟨rfl,rfl⟩;go_wp2_with fail;go_ret;exact ⟨by rw [HR.out];rfl,rfl⟩
 .by_cases h2:c1=x
  .subst h2;by_cases h3:C%4294967296=0
   .obtain rfl:s=0:=oA;by_cases h4:b=0
    .subst h4;have HR:=Hd (show pwB true y c1=true by rw [hp];exact VO oA);clear hp hc1 h3 hs;go_enter func204,ntmps204;go_wp2_with fail;refine HM.out.mono ?_;rintro e w' ⟨rfl,rfl⟩;go_wp2_with fail;refine HM2.out.mono ?_;rintro e w' ⟨rfl,rfl⟩;go_wp2_with fail;go_ret;exact ⟨by rw [HR.out];rfl,rfl⟩
    .have t4:((b:Int)==0)=false:=soA;have HR:=Hd (show pwB true y c1=false by rw [hp];exact Vd oA);clear hp hc1 h3 hs;go_enter func204,ntmps204;go_wp2_with fail;refine HM.out.mono ?_;rintro e w' ⟨rfl,rfl⟩;go_wp2_with fail;refine HM2.out.mono ?_;rintro e w' ⟨rfl,rfl⟩;go_wp2_with fail;go_ret;exact ⟨by rw [HR.out];rfl,rfl⟩
   .have t3:((s:Int)==0)=false:=soA;have HR:=Hd (show pwB true y c1=false by rw [hp];exact Vd oA);clear hp hc1 h3 hs;go_enter func204,ntmps204;go_wp2_with fail;refine HM.out.mono ?_;rintro e w' ⟨rfl,rfl⟩;go_wp2_with fail;refine HM2.out.mono ?_;rintro e w' ⟨rfl,rfl⟩;go_wp2_with fail;go_ret;exact ⟨by rw [HR.out];rfl,rfl⟩
  .have t1:decide (c1<x)=false:=(by simpa using h1);have t2:((c1:Int)==(x:Int))=false:=soA;have HR:=Hd (show pwB true y x=false by rw [hp];exact Vd oA);clear hp hc1 h1 h2 hs;go_enter func204,ntmps204;go_wp2_with fail;refine HM.out.mono ?_;rintro e w' ⟨rfl,rfl⟩;go_wp2_with fail;refine HM2.out.mono ?_;rintro e w' ⟨rfl,rfl⟩;go_wp2_with fail;go_ret;exact ⟨by rw [HR.out];rfl,rfl⟩
open Go.RowKit
theorem Ot:bu prog 271 196 1 4:=bu.mk (z:= .int .u32 0) underlying271 krA rfl oA
theorem KB:bu prog 278 105 1 8:=bu.mk (z:= .int .u64 0) underlying278 krA rfl oA
def nv (x:Nat):Value:= .int .u64 (x:Int)
theorem Ed (third:Bool) (l:List Nat) (x:Nat):(Ee third (l++ [x])).map wv=(Ee third l).map wv++ [.int .u32 (U32 (BitVec.ofNat 32 (rt third x)))]:=by
 simp [Ee,wv]
theorem tG (x:Nat):(x:Int)%4294967296=U32 (BitVec.ofNat 32 x):=by simp [U32]
structure RtIn (w:World) (H:Nat) (third:Bool) (l m:List Nat) (pa oa:Option Addr) (pc oc:Nat) (wr:World):Prop where
 primes:Own wr H 105 1 pa l.length pc (l.map nv)
 out:Own wr H 196 1 oa m.length oc ((Ee third m).map wv)
 below:Below H w wr
def Rt1 (w:World) (n:Nat) (third:Bool) (f:Nat) (p o x:Value) (wr:World):Prop:=
 ∃(k X L:Nat) (pa oa:Option Addr) (pc oc:Nat),f+k=311/\X=k+2/\L=(ps k).length/\L<=n/\p= .slice pa L pc/\o= .slice oa L oc/\x= .int .u64 (X:Int)/\RtIn w w.heap.size third (ps k) (ps k) pa oa pc oc wr
def Rt2 (wq:World) (X:Nat) (l:List Nat) (f:Nat) (i:Value) (wr:World):Prop:=
 ∃j:Nat,f+j=l.length/\i= .int .i64 (j:Int)/\(∀q,(h:q<l.length)->q<j->X%l[q]≠0)/\wq=wr
def Rt3 (wq:World) (third:Bool) (x:Nat) (f:Nat) (lo hi:Value) (wr:World):Prop:=
 ∃a b:Nat,lo= .int .u64 (a:Int)/\hi= .int .u64 (b:Int)/\a<b/\b<=85899345920/\b-a<=2^f/\bs third x f a b=rt third x/\wq=wr
theorem uv (y x:Nat) (third:Bool) (w:World) (hy:y<2^37) (hx:x<65536):
  Calls prog 204 #[.int .u64 (y:Int),.int .u64 (x:Int),.bool third] w fun e w'=>e= .returned (.bool (pwB third y x))/\w=w':=by
 cases third
 .exact Ev y x w hy hx
 .exact Ew y x w hy hx
theorem LS {third:Bool} {x f a b m:Nat} (h:1<b-a) (hm:m=a+(b-a)/2) (hp:pwB third m x=true):bs third x (f+1) a b=bs third x f m b:=by subst hm;rw [bs,if_pos h,if_pos hp]
theorem OU {third:Bool} {x f a b m:Nat} (h:1<b-a) (hm:m=a+(b-a)/2) (hp:pwB third m x=false):bs third x (f+1) a b=bs third x f a m:=by subst hm;rw [bs,if_pos h,hp];rfl
theorem uh (n:Nat) (third:Bool) (w:World) (hn:n<=64):
  Calls prog 195 #[.int .i64 (n:Int),.bool third] w fun e w'=>∃k a c,(ps k).length=n/\e= .returned (.slice a n c)/\Own w' w.heap.size 196 1 a n c ((Ee third (ps k)).map wv)/\Below w.heap.size w w':=by
 go_enter func195,ntmps195;go_wp2_with fail;go_step3;go_wp2_with fail;go_step3;go_wp2_with fail;go_loopg [5,6,7] 311 (Rt1 w n third)
 case atStart=>exact ⟨0,2,0,none,none,0,0,oA,rfl,rfl,oA,rfl,rfl,rfl,⟨Own.nil _ _ _ _,Own.nil _ _ _ _,AT _ _⟩⟩
 case round=>
  obtain ⟨k,X,L,pa,oa,pc,oc,hf,hX,hL,hLn,rfl,rfl,rfl,hI⟩:=hrel;have hpm:=hI.primes.le_max;rw [<-hL] at hpm;unfold maxLen at hpm;have hln:L<=k:=(by rw [hL];exact Ga k);by_cases hlt:L<n
  .have tl:decide (L<n)=true:=(by simpa using hlt);have hk:k<310:=KL oA;have hXl:X<65536:=oA;have HF:=Hd hf;have HX:=Hd hX;have HL:=Hd hL;clear hf hX hL;obtain ⟨g0,rfl⟩:∃g:Nat,g=gk:=⟨_,rfl⟩;obtain ⟨wo,rfl⟩:∃wo:World,wo=wr:=⟨_,rfl⟩;go_wp2_with fail;go_loopg [21,9] L (fun f i _ wr=>Rt2 wo X (ps k) f i wr)
   case atStart=>exact ⟨0,by rw [<-HL.out];omega,rfl,fun q _ h=>by omega,rfl⟩
   case round=>
    obtain ⟨j,hf,rfl,hno,rfl⟩:=hrel;have hlen:=HL.out;by_cases hj:j<L
    .have tj:decide (j<L)=true:=(by simpa using hj);have hjl:j<(ps k).length:=(by rw [<-hlen];exact hj);obtain ⟨b,o,hpa,hc⟩:=hI.primes.row j (by simpa using hjl);subst hpa;obtain ⟨p,hp⟩:=Le ((ps k)[j]);have hc':wo.cell? ⟨b,o+j,none⟩=some (.int .u64 (p:Int)):=by
      rw [hc,hp];simp [nv]
     have hp2:2<=p:=(by rw [hp];exact (FZ k _ (VE _)).1);have hp2I:(2:Int)<=(p:Int):=oA;have HP:=Hd hp;have HN:=Hd hno;have HF2:=Hd hf;have HC:=Hd hlen;clear hc hp hno hf hlen;by_cases hd:X%p=0
     .have td:((X:Int)%(p:Int)==0)=true:=(by rw [Xj];exact_mod_cast hd);have HD:=Hd hd;clear hd;go_wp2_with fail;go_roundg (g0-1)
      case rel=>
       have hf:=HF.out;have hX:=HX.out;have e:ps (k+1)=ps k:=by
        rw [ps,mp,if_neg];intro h;have:=XA.1 h _ (VE hjl);rw [<-HP.out,<-hX] at this;simp [HD.out] at this
       exact ⟨k+1,X+1,L,_,_,_,_,oA,oA,by rw [e];exact HL.out,hLn,rfl,rfl,gnA,by rw [e];exact hI⟩
      case measure=>have hf:=HF.out;omega
     .have td:((X:Int)%(p:Int)==0)=false:=(by rw [beq_eq_false_iff_ne];exact_mod_cast hd);have HD:=Hd hd;clear hd;go_wp2_with fail;go_roundg (gk-1)
      case rel=>
       have hf:=HF2.out;refine ⟨j+1,oA,gnA,fun q hq hqj=> ?_,rfl⟩;by_cases e:q=j
       .subst e;rw [<-HP.out];exact HD.out
       .exact HN.out q hq oA
      case measure=>have hf:=HF2.out;have:=HC.out;omega
    .have tj:decide (j<L)=false:=(by simpa using hj);have hall:ps (k+1)=ps k++ [X]:=by
      have hX:=HX.out;rw [ps,mp,if_pos,hX];rw [XA];intro p hp;obtain ⟨q,hq,rfl⟩:=XR hp;have:=hno q hq oA;rw [hX] at this;simpa using this
     have HA:=Hd hall;have hk':(k:Nat)<310:=hk;have hown1:=hI.primes;have hown2:=hI.out;rw [<-hlen] at hown1 hown2;have hb:=hI.below;clear hall hno hf hlen hI;have hsz:=hb.size;go_wp2_with (at_builtin;refine al rfl (.tmp 30) (.tmp 32) 278 rfl KB rfl (hown1.alloc _) rfl (aw.new' _ _ _ _ skA) rfA (by exact dg _ rfl) mxA oA soA ?_);intro pa' pc' w4 hown4 hg4;have hb4:=(hown1.alloc (.cells #[Value.int .u64 (X:Int)] 105)).grown (hb.alloc hsz _) (Lt _) hg4 soA;have hout4:=(hown2.alloc (.cells #[Value.int .u64 (X:Int)] 105)).apart (hown1.alloc _) dcA hg4;clear hown1 hown2 hg4 hb;go_wp2_with fail;go_loopg [10,11] 64 (Rt3 w4 third X)
     case atStart=>exact ⟨0,85899345920,rfl,rfl,oA,oA,oA,rfl,rfl⟩
     case round=>
      obtain ⟨a,b,rfl,rfl,hab,hbm,hgap,hbs,rfl⟩:=hrel;obtain ⟨d,hd⟩:=Le (b-a);have hdI:(b:Int)-(a:Int)=(d:Int):=oA;have HBS:=Hd hbs;clear hbs;by_cases h1:1<d
      .have t1:decide ((1:Int)<(d:Int))=true:=soA;obtain ⟨e,he⟩:=Le (d/2);have heI:(d:Int)/2=(e:Int):=oA;obtain ⟨m,hm⟩:=Le (a+e);have hmI:(a:Int)+(e:Int)=(m:Int):=oA;obtain ⟨f',hf'⟩:∃f',gk=f'+1:=⟨gk-1,by
        rcases Nat.eq_zero_or_pos gk with h0|h0
        .subst h0;omega
        .omega⟩
       have hpow:2^gk=2*2^f':=(by rw [hf',Nat.pow_succ,Wi]);have HMD:=Hd (show m=a+(b-a)/2 by omega);have HG:=Hd (show b-m<=2^f'/\m-a<=2^f' by omega);have HF':=Hd hf';have hm1:a<m:=oA;have hm2:m<b:=oA;have h1':1<b-a:=oA;clear hgap hpow hd he hm hf';cases hpb:pwB third m X with
       |true=>
        have HPB:=Hd hpb;go_wp2_with fail;refine (uv m X third _ oA hXl).mono ?_;rw [HPB.out];clear hpb;rintro e' w' ⟨rfl,rfl⟩;go_wp2_with fail;go_roundg f'
        case rel=>exact ⟨m,b,rfl,rfl,hm2,hbm,HG.out.1,by rw [<-HBS.out,HF'.out,LS h1' HMD.out HPB.out],rfl⟩
        case measure=>have:=HF'.out;omega
       |false=>
        have HPB:=Hd hpb;go_wp2_with fail;refine (uv m X third _ oA hXl).mono ?_;rw [HPB.out];clear hpb;rintro e' w' ⟨rfl,rfl⟩;go_wp2_with fail;go_roundg f'
        case rel=>exact ⟨a,m,rfl,rfl,hm1,oA,HG.out.2,by rw [<-HBS.out,HF'.out,OU h1' HMD.out HPB.out],rfl⟩
        case measure=>have:=HF'.out;omega
      .have t1:decide ((1:Int)<(d:Int))=false:=soA;have hrt:rt third X=a:=(by rw [<-HBS.out];exact Jw _ _ _ _ oA _);have hU:=tG a;rw [<-hrt] at hU;have HRT:=Hd hrt;have hU':(a:Int)%4294967296=U32 (BitVec.ofNat 32 (rt third X)):=(by rw [HRT.out];exact tG a);clear hU hrt hd hgap;have hsz4:=hb4.size;go_wp2_with (at_builtin;refine al rfl (.tmp 50) (.tmp 53) 271 rfl Ot rfl (hout4.alloc _) rfl (aw.new' _ _ _ _ skA) rfA (by exact dg _ rfl) mxA oA soA ?_);intro oa' oc' w5 hown5 hg5;have hb5:=(hout4.alloc (.cells #[Value.int .u32 (U32 (BitVec.ofNat 32 (rt third X)))] 196)).grown (hb4.alloc hsz4 _) (Lt _) hg5 soA;have hpr5:=(hown4.alloc (.cells #[Value.int .u32 (U32 (BitVec.ofNat 32 (rt third X)))] 196)).apart (hout4.alloc _) dcA hg5;clear hU';go_wp2_with fail;go_roundg (g0-1)
       case rel=>
        have hf:=HF.out;have hX:=HX.out;have hL:=HL.out;have e:=HA.out;have el:(ps (k+1)).length=L+1:=(by rw [e,laA,<-hL];rfl);refine ⟨k+1,X+1,L+1,pa',oa',pc',oc',oA,oA,el.symm,oA,rfl,rfl,gnA,?_⟩;refine ⟨?_,?_,hb5⟩
        .rw [el,e,VG];exact hpr5
        .rw [el,e,Ed];exact hown5
       case measure=>have hf:=HF.out;omega
  .have tl:decide (L<n)=false:=(by simpa using hlt);obtain rfl:L=n:=oA;have HL:=Hd hL;clear hf hX hL;go_wp2_with fail
   (try rw [WA]);go_ret;refine ⟨k,oa,oc,HL.out.symm,rfl,?_,hI.below⟩;have:=hI.out;rw [<-HL.out] at this;exact this
open Go.RowKit
def rr (x:BitVec 32) (n:Nat):BitVec 32:=(x<<<(32-n))|||(x>>>n)
def sg0 (x:BitVec 32):BitVec 32:=rr x 7^^^rr x 18^^^x>>>3
def sg1 (x:BitVec 32):BitVec 32:=rr x 17^^^rr x 19^^^x>>>10
def wx (w:Nat->BitVec 32):Nat->Nat->BitVec 32
 |0=>w
 |k+1=>fun j=>if j=16+k then wx w k (16+k-16)+wx w k (16+k-7)+sg0 (wx w k (16+k-15))+sg1 (wx w k (16+k-2)) else wx w k j
def uu (v:Nat->BitVec 32) (k w:BitVec 32):BitVec 32:=v 7+(rr (v 4) 6^^^rr (v 4) 11^^^rr (v 4) 25)+((v 4&&&v 5)^^^(~~~v 4&&&v 6))+k+w
def xx (v:Nat->BitVec 32):BitVec 32:=(rr (v 0) 2^^^rr (v 0) 13^^^rr (v 0) 22)+((v 0&&&v 1)^^^(v 0&&&v 2)^^^(v 1&&&v 2))
def rd (v:Nat->BitVec 32) (k w:BitVec 32):Nat->BitVec 32:=fun j=>if j=0 then uu v k w+xx v else if j=4 then v 3+uu v k w else v (j-1)
def kwd (i:Nat):BitVec 32:=JV.getD i 0#32
def hwd (i:Nat):BitVec 32:=JW.getD i 0#32
def vs (h w:Nat->BitVec 32):Nat->Nat->BitVec 32
 |0=>h
 |t+1=>rd (vs h w t) (kwd t) (w t)
def cmp (h w:Nat->BitVec 32):Nat->BitVec 32:=fun j=>h j+vs h (wx w 48) 64 j
def byt (l:List UInt8) (i:Nat):BitVec 8:=(l.getD i 0).toBitVec
def mN (l:List UInt8) (p:Nat):Nat->BitVec 32
 |0=>0#32
 |q+1=>mN l p q<<<8|||(byt l (p+q)).setWidth 32
def wd (l:List UInt8) (o t:Nat):BitVec 32:=mN l (o+4*t) 4
def stt (l:List UInt8):Nat->Nat->BitVec 32
 |0=>hwd
 |i+1=>cmp (stt l i) (wd l (64*i))
theorem xv {l m:List UInt8} {p q:Nat}:∀{n:Nat},(∀i,i<n->byt l (p+i)=byt m (q+i))->mN l p n=mN m q n
 |0,_=>rfl
 |n+1,h=>by rw [mN,mN,xv (fun i hi=>h i oA),h n oA]
theorem Kj {w u:Nat->BitVec 32} (h:∀t,t<16->w t=u t):∀k,k<=48->∀j,j<16+k->wx w k j=wx u k j
 |0,_,j,hj=>h j oA
 |k+1,hk,j,hj=>by
  have ih:=Kj h k oA;simp only [wx];by_cases e:j=16+k
  .rw [if_pos e,if_pos e,ih _ oA,ih _ oA,ih _ oA,ih _ oA]
  .rw [if_neg e,if_neg e,ih j oA]
theorem OD {v u:Nat->BitVec 32} (h:∀j,j<8->v j=u j) (k w:BitVec 32):∀j,j<8->rd v k w j=rd u k w j:=fun j hj=>by
 unfold rd uu xx;rw [h 0 oA,h 1 oA,h 2 oA,h 3 oA,h 4 oA,h 5 oA,h 6 oA,h 7 oA];by_cases e:j=0
 .rw [if_pos e,if_pos e]
 .rw [if_neg e,if_neg e,h (j-1) oA]
theorem Ko {h g w u:Nat->BitVec 32} (hh:∀j,j<8->h j=g j) (hw:∀t,t<64->w t=u t):∀t,t<=64->∀j,j<8->vs h w t j=vs g u t j
 |0,_,j,hj=>hh j hj
 |t+1,ht,j,hj=>by
  rw [vs,vs,hw t oA];exact OD (Ko hh hw t oA) _ _ j hj
theorem yE {h g w u:Nat->BitVec 32} (hh:∀j,j<8->h j=g j) (hw:∀t,t<16->w t=u t):∀j,j<8->cmp h w j=cmp g u j:=fun j hj=>by
 unfold cmp;rw [hh j hj,Ko hh (fun t ht=>Kj hw 48 oA t oA) 64 oA j hj]
theorem Ha {l m:List UInt8} {o p t:Nat} (h:∀i,i<64->byt l (o+i)=byt m (p+i)) (ht:t<16):wd l o t=wd m p t:=
 xv fun i hi=>by
  have:=h (4*t+i) oA;rwa [show o+4*t+i=o+(4*t+i) by omega,show p+4*t+i=p+(4*t+i) by omega]
theorem FY {l m:List UInt8}:∀i,(∀k,k<64*i->byt l k=byt m k)->∀j,j<8->stt l i j=stt m i j
 |0,_,_,_=>rfl
 |i+1,h,j,hj=>by
  rw [stt,stt];exact yE (FY i fun k hk=>h k oA) (fun t ht=>Ha (fun q hq=>h (64*i+q) oA) ht) j hj
end
end Go.Proofs.YtioigihakjlopaaGreat

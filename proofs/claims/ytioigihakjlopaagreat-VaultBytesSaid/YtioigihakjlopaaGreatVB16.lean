/- Texts put together and cut to what is used: ShaA. -/
import Derived.Test.YtioigihakjlopaaGreatVB04
import Derived.WalkKit
import Derived.Test.YtioigihakjlopaaGreatRows
namespace Go.Proofs.YtioigihakjlopaaGreat
set_option linter.unusedVariables false
set_option linter.unusedSimpArgs false
section
open Go.RowKit
def pwB (third:Bool) (y x:Nat):Bool:=if third then decide (y*y*y≤x*79228162514264337593543950336) else decide (y*y≤x*18446744073709551616)
def psStep (l:List Nat) (x:Nat):List Nat:=if l.all (fun p=>x%p !=0) then l++ [x] else l
def ps:Nat→List Nat
 |0=> []
 |k+1=>psStep (ps k) (k+2)
theorem psStep_prefix (l:List Nat) (x:Nat):l<+:psStep l x:=by
 unfold psStep
 split
 ·exact List.prefix_append _ _
 ·exact List.prefix_refl _
theorem ps_prefix (k:Nat):∀j,ps k<+:ps (k+j)
 |0=>List.prefix_refl _
 |j+1=>(ps_prefix k j).trans (psStep_prefix _ _)
theorem ps_le {k m:Nat} (h:k≤m):ps k<+:ps m:=by
 have:=ps_prefix k (m-k)
 rwa [Nat.add_sub_cancel' h] at this
theorem ps_len_step (k:Nat):(ps (k+1)).length≤(ps k).length+1:=by
 rw [ps,psStep]
 split<;>simp
theorem ps_two (k:Nat):∀p∈ps k,2≤p∧p<k+2:=by
 induction k with
 |zero=>intro p h;simp [ps] at h
 |succ k ih=>
  intro p h
  rw [ps,psStep] at h
  split at h
  ·rcases List.mem_append.1 h with h|h
   ·have:=ih p h;omega
   ·simp at h;omega
  ·have:=ih p h;omega
theorem ps_len (k:Nat):(ps k).length≤k:=by
 induction k with
 |zero=>simp [ps]
 |succ k ih=>have:=ps_len_step k;omega
def psLit:List Nat:=[2,3,5,7,11,13,17,19,23,29,31,37,41,43,47,53,59,61,67,71,73,79,83,89,97,101,103,107,109,113,127,131,137,139,149,151,157,163,167,173,179,181,191,193,197,199,211,223,227,229,233,239,241,251,257,263,269,271,277,281,283,293,307,311]
def growsTo:Nat→Nat→List Nat→Bool
 |0,_,l=>l==psLit
 |n+1,k,l=>growsTo n (k+1) (psStep l (k+2))
theorem growsTo_spec:∀(n k:Nat),growsTo n k (ps k)=true→ps (k+n)=psLit
 |0,k,h=>by simpa [growsTo] using h
 |n+1,k,h=>by
  have:=growsTo_spec n (k+1) h
  rwa [show k+1+n=k+(n+1) by omega] at this
theorem ps_310:ps 310=psLit:=growsTo_spec 310 0 (by decide+kernel)
theorem ps_lt {k:Nat} (h:(ps k).length<64):k<310:=by
 rcases Nat.lt_or_ge k 310 with h1|h1
 ·exact h1
 ·have:=(ps_le h1).length_le
  rw [ps_310] at this
  have e:psLit.length=64:=rfl
  omega
theorem ps_take {k n:Nat} (h:(ps k).length=n) (hn:n≤64):ps k=psLit.take n:=by
 rcases Nat.lt_or_ge k 311 with h1|h1
 ·have:=ps_le (show k≤310 by omega)
  rw [ps_310] at this
  rw [←h];exact List.prefix_iff_eq_take.1 this
 ·have:=ps_le (show 310≤k by omega)
  rw [ps_310] at this
  have e:psLit.length=64:=rfl
  have e2:=this.length_le
  have e3:psLit=ps k:=this.eq_of_length (by omega)
  rw [←e3,show n=64 by omega];rfl
def bs (third:Bool) (x:Nat):Nat→Nat→Nat→Nat
 |0,lo,_=>lo
 |f+1,lo,hi=>if 1<hi-lo then (if pwB third (lo+(hi-lo)/2) x then bs third x f (lo+(hi-lo)/2) hi else bs third x f lo (lo+(hi-lo)/2)) else lo
def rt (third:Bool) (x:Nat):Nat:=bs third x 64 0 85899345920
theorem bs_done (third:Bool) (x lo hi:Nat) (h:¬1<hi-lo):∀f,bs third x f lo hi=lo
 |0=>rfl
 |f+1=>by rw [bs,if_neg h]
def rtsF (third:Bool) (l:List Nat):List (BitVec 32):=l.map fun x=>BitVec.ofNat 32 (rt third x)
def kLit:List (BitVec 32):=rtsF true psLit
def hLit:List (BitVec 32):=rtsF false (psLit.take 8)
def kVal:List (BitVec 32):=[0x428a2f98#32,0x71374491#32,0xb5c0fbcf#32,0xe9b5dba5#32,0x3956c25b#32,0x59f111f1#32,0x923f82a4#32,0xab1c5ed5#32,0xd807aa98#32,0x12835b01#32,0x243185be#32,0x550c7dc3#32,0x72be5d74#32,0x80deb1fe#32,0x9bdc06a7#32,0xc19bf174#32,0xe49b69c1#32,0xefbe4786#32,0x0fc19dc6#32,0x240ca1cc#32,0x2de92c6f#32,0x4a7484aa#32,0x5cb0a9dc#32,0x76f988da#32,0x983e5152#32,0xa831c66d#32,0xb00327c8#32,0xbf597fc7#32,0xc6e00bf3#32,0xd5a79147#32,0x06ca6351#32,0x14292967#32,0x27b70a85#32,0x2e1b2138#32,0x4d2c6dfc#32,0x53380d13#32,0x650a7354#32,0x766a0abb#32,0x81c2c92e#32,0x92722c85#32,0xa2bfe8a1#32,0xa81a664b#32,0xc24b8b70#32,0xc76c51a3#32,0xd192e819#32,0xd6990624#32,0xf40e3585#32,0x106aa070#32,0x19a4c116#32,0x1e376c08#32,0x2748774c#32,0x34b0bcb5#32,0x391c0cb3#32,0x4ed8aa4a#32,0x5b9cca4f#32,0x682e6ff3#32,0x748f82ee#32,0x78a5636f#32,0x84c87814#32,0x8cc70208#32,0x90befffa#32,0xa4506ceb#32,0xbef9a3f7#32,0xc67178f2#32]
def hVal:List (BitVec 32):=[0x6a09e667#32,0xbb67ae85#32,0x3c6ef372#32,0xa54ff53a#32,0x510e527f#32,0x9b05688c#32,0x1f83d9ab#32,0x5be0cd19#32]
theorem kLit_eq:kLit=kVal:=by decide+kernel
theorem hLit_eq:hLit=hVal:=by decide+kernel
theorem rts_k {k:Nat} (h:(ps k).length=64):rtsF true (ps k)=kVal:=by rw [ps_take h (by omega),←kLit_eq];rfl
theorem rts_h {k:Nat} (h:(ps k).length=8):rtsF false (ps k)=hVal:=by rw [ps_take h (by omega),←hLit_eq];rfl
open Go.RowKit
theorem and32 (x:Nat) (h:x<2^64):bits .and .u64 (x:Int) 4294967295=((x%4294967296:Nat):Int):=by
 rw [bits_and_u64]
 have e:(BitVec.ofInt 64 (x:Int)&&&BitVec.ofInt 64 4294967295).toNat=x%4294967296:=by
  rw [BitVec.toNat_and]
  have h1:(BitVec.ofInt 64 (x:Int)).toNat=x:=by rw [BitVec.ofInt_natCast,BitVec.toNat_ofNat];omega
  have h2:(BitVec.ofInt 64 4294967295).toNat=2^32-1:=by decide
  rw [h1,h2,Nat.and_two_pow_sub_one_eq_mod]
 show ((BitVec.toNat _:Nat):Int)=_
 rw [e]
theorem wrap_mod (x:Nat):IntKind.u64.wrap (x:Int)=((x%2^64:Nat):Int):=by
 simp [IntKind.wrap,IntKind.bits,IntKind.signed]
theorem wrap_mul (x y:Nat):IntKind.u64.wrap ((x:Int)*(y:Int))=((x*y%2^64:Nat):Int):=by
 rw [←wrap_mod];norm_cast
theorem mul_split (x1 x0 y1 y0 P:Nat):(x1*P+x0)*(y1*P+y0)=x1*y1*(P*P)+(x1*y0+x0*y1)*P+x0*y0:=by
 simp only [Nat.add_mul,Nat.mul_add]
 have e1:x1*P*(y1*P)=x1*y1*(P*P):=Nat.mul_mul_mul_comm _ _ _ _
 have e2:x1*P*y0=x1*y0*P:=by rw [Nat.mul_right_comm]
 have e3:x0*(y1*P)=x0*y1*P:=by rw [Nat.mul_assoc]
 omega
set_option maxHeartbeats 400000 in
theorem mul64_any (x y:Nat) (w:World) (hx:x<2^64) (hy:y<2^64):
  Calls Tryz.prog 210 #[.int .u64 (x:Int),.int .u64 (y:Int)] w fun e w'=>e= .returned (.tuple #[.int .u64 ((x*y/2^64:Nat):Int),.int .u64 ((x*y%2^64:Nat):Int)])∧w=w':=by
 obtain ⟨x1,hx1⟩:∃k,k=x/4294967296:=⟨_,rfl⟩
 obtain ⟨x0,hx0⟩:∃k,k=x%4294967296:=⟨_,rfl⟩
 obtain ⟨y1,hy1⟩:∃k,k=y/4294967296:=⟨_,rfl⟩
 obtain ⟨y0,hy0⟩:∃k,k=y%4294967296:=⟨_,rfl⟩
 have bd:∀p q:Nat,p≤4294967295→q≤4294967295→p*q≤18446744065119617025:=fun p q h1 h2=>Nat.mul_le_mul h1 h2
 have b00:=bd x0 y0 (by omega) (by omega)
 have b10:=bd x1 y0 (by omega) (by omega)
 have b01:=bd x0 y1 (by omega) (by omega)
 have b11:=bd x1 y1 (by omega) (by omega)
 have hxy:=mul_split x1 x0 y1 y0 4294967296
 rw [show x1*4294967296+x0=x by omega,show y1*4294967296+y0=y by omega] at hxy
 have m00:=wrap_mul x0 y0
 have m10:=wrap_mul x1 y0
 have m01:=wrap_mul x0 y1
 have m11:=wrap_mul x1 y1
 have mxy:=wrap_mul x y
 obtain ⟨a,ha⟩:∃a,a=x0*y0:=⟨_,rfl⟩
 obtain ⟨b,hb⟩:∃a,a=x1*y0:=⟨_,rfl⟩
 obtain ⟨c,hc⟩:∃a,a=x0*y1:=⟨_,rfl⟩
 obtain ⟨d,hd⟩:∃a,a=x1*y1:=⟨_,rfl⟩
 rw [←ha] at b00 m00 hxy
 rw [←hb] at b10 m10 hxy
 rw [←hc] at b01 m01 hxy
 rw [←hd] at b11 m11 hxy
 rw [Nat.mod_eq_of_lt (by omega)] at m00 m10 m01 m11
 obtain ⟨t,ht⟩:∃t,t=b+a/4294967296:=⟨_,rfl⟩
 obtain ⟨t0,ht0⟩:∃k,k=t%4294967296:=⟨_,rfl⟩
 obtain ⟨t1,ht1⟩:∃k,k=t/4294967296:=⟨_,rfl⟩
 obtain ⟨s,hs⟩:∃s,s=t0+c:=⟨_,rfl⟩
 obtain ⟨u,hu⟩:∃u,u=d+t1:=⟨_,rfl⟩
 obtain ⟨v,hv⟩:∃v,v=u+s/4294967296:=⟨_,rfl⟩
 obtain ⟨r,hr⟩:∃r,r=x*y%2^64:=⟨_,rfl⟩
 have HV:v=x*y/2^64:=by rw [hxy];omega
 have q1:(x:Int)/4294967296=(x1:Int):=by omega
 have q2:(y:Int)/4294967296=(y1:Int):=by omega
 have a1:=and32 x hx
 have a2:=and32 y hy
 rw [←hx0] at a1
 rw [←hy0] at a2
 have a3:=and32 t (by omega)
 rw [←ht0] at a3
 have w1:IntKind.u64.wrap ((b:Int)+(a:Int)/4294967296)=(t:Int):=by rw [show (b:Int)+(a:Int)/4294967296=((t:Nat):Int) by omega,wrap_mod];omega
 have w2:(t:Int)/4294967296=(t1:Int):=by omega
 have w3:IntKind.u64.wrap ((t0:Int)+(c:Int))=(s:Int):=by rw [show (t0:Int)+(c:Int)=((s:Nat):Int) by omega,wrap_mod];omega
 have w4:IntKind.u64.wrap ((d:Int)+(t1:Int))=(u:Int):=by rw [show (d:Int)+(t1:Int)=((u:Nat):Int) by omega,wrap_mod];omega
 have w5:IntKind.u64.wrap ((u:Int)+(s:Int)/4294967296)=(v:Int):=by rw [show (u:Int)+(s:Int)/4294967296=((v:Nat):Int) by omega,wrap_mod];omega
 rw [←HV,←hr]
 rw [←hr] at mxy
 clear hx0 hx1 hy0 hy1 ha hb hc hd ht ht0 ht1 hs hu hv hr HV hxy bd
 go_enter Tryz.func210,Tryz.ntmps210
 go_wp2_with fail
 go_ret2
 exact ⟨rfl,rfl⟩
set_option maxHeartbeats 400000 in
theorem power_sq (y x:Nat) (w:World) (hy:y<2^37) (hx:x<65536):
  Calls Tryz.prog 204 #[.int .u64 (y:Int),.int .u64 (x:Int),.bool false] w fun e w'=>e= .returned (.bool (pwB false y x))∧w=w':=by
 have hm:=mul64_any y y w (by omega) (by omega)
 have hp:pwB false y x=decide (y*y≤x*18446744073709551616):=rfl
 obtain ⟨h,hh⟩:∃h,h=y*y/2^64:=⟨_,rfl⟩
 obtain ⟨l,hl⟩:∃h,h=y*y%2^64:=⟨_,rfl⟩
 rw [←hh,←hl] at hm
 obtain ⟨P,hP⟩:∃P,P=y*y:=⟨_,rfl⟩
 rw [←hP] at hh hl hp
 have HM:=Lib.hid hm
 clear hm hP
 by_cases h1:h<x
 ·have HR:=Lib.hid (show pwB false y x=true by rw [hp];simp;omega)
  have t1:decide (h<x)=true:=by simpa using h1
  clear hh hl hp
  go_enter Tryz.func204,Tryz.ntmps204
  go_wp2_with fail
  refine HM.out.mono ?_
  rintro e w' ⟨rfl,rfl⟩
  go_wp2_with fail
  go_ret
  exact ⟨by rw [HR.out];rfl,rfl⟩
 ·by_cases h2:h=x∧l=0
  ·obtain ⟨rfl,rfl⟩:=h2
   have HR:=Lib.hid (show pwB false y h=true by rw [hp];simp;omega)
   clear hh hl hp
   go_enter Tryz.func204,Tryz.ntmps204
   go_wp2_with fail
   refine HM.out.mono ?_
   rintro e w' ⟨rfl,rfl⟩
   go_wp2_with fail
   go_ret
   exact ⟨by rw [HR.out];rfl,rfl⟩
  ·have HR:=Lib.hid (show pwB false y x=false by rw [hp];simp;omega)
   have t1:decide (h<x)=false:=by simpa using h1
   by_cases h3:h=x
   ·subst h3
    have t3:((l:Int)==0)=false:=by simp;omega
    clear hh hl hp h1 h2
    go_enter Tryz.func204,Tryz.ntmps204
    go_wp2_with fail
    refine HM.out.mono ?_
    rintro e w' ⟨rfl,rfl⟩
    go_wp2_with fail
    go_ret
    exact ⟨by rw [HR.out];rfl,rfl⟩
   ·have t3:((h:Int)==(x:Int))=false:=by simp;omega
    clear hh hl hp h1 h2
    go_enter Tryz.func204,Tryz.ntmps204
    go_wp2_with fail
    refine HM.out.mono ?_
    rintro e w' ⟨rfl,rfl⟩
    go_wp2_with fail
    go_ret
    exact ⟨by rw [HR.out];rfl,rfl⟩
theorem cube_split (y h l a b C:Nat) (P:Nat) (hP:P=y*y) (hh:h=P/18446744073709551616) (hl:l=P%18446744073709551616) (ha:a=l*y/18446744073709551616) (hb:b=l*y%18446744073709551616) (hC:C=h*y+a):y*y*y=C*18446744073709551616+b:=by
 have e1:P=h*18446744073709551616+l:=by rw [hh,hl];exact (Nat.div_add_mod' P 18446744073709551616).symm
 have e3:l*y=a*18446744073709551616+b:=by rw [ha,hb];exact (Nat.div_add_mod' (l*y) 18446744073709551616).symm
 rw [←hP,e1,Nat.add_mul,Nat.mul_right_comm,e3,hC,Nat.add_mul,Nat.add_assoc]
set_option maxHeartbeats 400000 in
theorem power_cu (y x:Nat) (w:World) (hy:y<2^37) (hx:x<65536):
  Calls Tryz.prog 204 #[.int .u64 (y:Int),.int .u64 (x:Int),.bool true] w fun e w'=>e= .returned (.bool (pwB true y x))∧w=w':=by
 have hm:=mul64_any y y w (by omega) (by omega)
 have hp:pwB true y x=decide (y*y*y≤x*79228162514264337593543950336):=rfl
 obtain ⟨h,hh⟩:∃h,h=y*y/2^64:=⟨_,rfl⟩
 obtain ⟨l,hl⟩:∃h,h=y*y%2^64:=⟨_,rfl⟩
 rw [←hh,←hl] at hm
 have hm2:=mul64_any l y w (by omega) (by omega)
 obtain ⟨a,ha⟩:∃h,h=l*y/2^64:=⟨_,rfl⟩
 obtain ⟨b,hb⟩:∃h,h=l*y%2^64:=⟨_,rfl⟩
 rw [←ha,←hb] at hm2
 have hyy:y*y≤2^37*2^37:=Nat.mul_le_mul (by omega) (by omega)
 have hh2:h≤1024:=by omega
 have hhy:h*y≤1024*2^37:=Nat.mul_le_mul (by omega) (by omega)
 have hly:l*y≤2^64*2^37:=Nat.mul_le_mul (by omega) (by omega)
 obtain ⟨C,hC⟩:∃C,C=h*y+a:=⟨_,rfl⟩
 have hcube:=cube_split y h l a b C (y*y) rfl hh hl ha hb hC
 rw [hcube] at hp
 have k1:=wrap_mul h y
 rw [Nat.mod_eq_of_lt (by omega)] at k1
 obtain ⟨q,hq⟩:∃q,q=h*y:=⟨_,rfl⟩
 rw [←hq] at k1 hC hhy
 have k2:IntKind.u64.wrap ((q:Int)+(a:Int))=(C:Int):=by rw [show (q:Int)+(a:Int)=((C:Nat):Int) by omega,wrap_mod];omega
 have hCl:C<2^48:=by omega
 have hbl:b<2^64:=by omega
 obtain ⟨c1,hc1⟩:∃k,k=C/4294967296:=⟨_,rfl⟩
 have k3:(C:Int)/4294967296=(c1:Int):=by omega
 obtain ⟨s,hs⟩:∃k,k=C*4294967296%18446744073709551616:=⟨_,rfl⟩
 have k4:(C:Int)*4294967296%18446744073709551616=(s:Int):=by omega
 have k5:IntKind.u64.wrap ((C:Int)*4294967296)=(s:Int):=by rw [show (C:Int)*4294967296=((C*4294967296:Nat):Int) by omega,wrap_mod,hs]
 have HM:=Lib.hid hm
 have HM2:=Lib.hid hm2
 clear hm hm2 hh hl ha hb hC hcube hq hyy hly hhy
 by_cases h1:c1<x
 ·have HR:=Lib.hid (show pwB true y x=true by rw [hp];exact decide_eq_true (by omega))
  have t1:decide (c1<x)=true:=by simpa using h1
  clear hp hc1 hs
  go_enter Tryz.func204,Tryz.ntmps204
  go_wp2_with fail
  refine HM.out.mono ?_
  rintro e w' ⟨rfl,rfl⟩
  go_wp2_with fail
  refine HM2.out.mono ?_
  rintro e w' ⟨rfl,rfl⟩
  go_wp2_with fail
  go_ret
  exact ⟨by rw [HR.out];rfl,rfl⟩
 ·by_cases h2:c1=x
  ·subst h2
   by_cases h3:C%4294967296=0
   ·obtain rfl:s=0:=by omega
    by_cases h4:b=0
    ·subst h4
     have HR:=Lib.hid (show pwB true y c1=true by rw [hp];exact decide_eq_true (by omega))
     clear hp hc1 h3 hs
     go_enter Tryz.func204,Tryz.ntmps204
     go_wp2_with fail
     refine HM.out.mono ?_
     rintro e w' ⟨rfl,rfl⟩
     go_wp2_with fail
     refine HM2.out.mono ?_
     rintro e w' ⟨rfl,rfl⟩
     go_wp2_with fail
     go_ret
     exact ⟨by rw [HR.out];rfl,rfl⟩
    ·have t4:((b:Int)==0)=false:=by simp;omega
     have HR:=Lib.hid (show pwB true y c1=false by rw [hp];exact decide_eq_false (by omega))
     clear hp hc1 h3 hs
     go_enter Tryz.func204,Tryz.ntmps204
     go_wp2_with fail
     refine HM.out.mono ?_
     rintro e w' ⟨rfl,rfl⟩
     go_wp2_with fail
     refine HM2.out.mono ?_
     rintro e w' ⟨rfl,rfl⟩
     go_wp2_with fail
     go_ret
     exact ⟨by rw [HR.out];rfl,rfl⟩
   ·have t3:((s:Int)==0)=false:=by simp;omega
    have HR:=Lib.hid (show pwB true y c1=false by rw [hp];exact decide_eq_false (by omega))
    clear hp hc1 h3 hs
    go_enter Tryz.func204,Tryz.ntmps204
    go_wp2_with fail
    refine HM.out.mono ?_
    rintro e w' ⟨rfl,rfl⟩
    go_wp2_with fail
    refine HM2.out.mono ?_
    rintro e w' ⟨rfl,rfl⟩
    go_wp2_with fail
    go_ret
    exact ⟨by rw [HR.out];rfl,rfl⟩
  ·have t1:decide (c1<x)=false:=by simpa using h1
   have t2:((c1:Int)==(x:Int))=false:=by simp;omega
   have HR:=Lib.hid (show pwB true y x=false by rw [hp];exact decide_eq_false (by omega))
   clear hp hc1 h1 h2 hs
   go_enter Tryz.func204,Tryz.ntmps204
   go_wp2_with fail
   refine HM.out.mono ?_
   rintro e w' ⟨rfl,rfl⟩
   go_wp2_with fail
   refine HM2.out.mono ?_
   rintro e w' ⟨rfl,rfl⟩
   go_wp2_with fail
   go_ret
   exact ⟨by rw [HR.out];rfl,rfl⟩
open Go.RowKit
theorem u32sT:RowType Tryz.prog 271 196 1 4:=RowType.mk (z:= .int .u32 0) Tryz.underlying271 (by kernel_rfl) rfl (by omega)
theorem u64sT:RowType Tryz.prog 278 105 1 8:=RowType.mk (z:= .int .u64 0) Tryz.underlying278 (by kernel_rfl) rfl (by omega)
def nv (x:Nat):Value:= .int .u64 (x:Int)
theorem rts_snoc (third:Bool) (l:List Nat) (x:Nat):(rtsF third (l++ [x])).map wv=(rtsF third l).map wv++ [.int .u32 (U32 (BitVec.ofNat 32 (rt third x)))]:=by
 simp [rtsF,wv]
theorem U32_nat (x:Nat):(x:Int)%4294967296=U32 (BitVec.ofNat 32 x):=by simp [U32]
structure RtIn (w:World) (H:Nat) (third:Bool) (l m:List Nat) (pa oa:Option Addr) (pc oc:Nat) (wr:World):Prop where
 primes:Own wr H 105 1 pa l.length pc (l.map nv)
 out:Own wr H 196 1 oa m.length oc ((rtsF third m).map wv)
 below:Below H w wr
def Rt1 (w:World) (n:Nat) (third:Bool) (f:Nat) (p o x:Value) (wr:World):Prop:=
 ∃(k X L:Nat) (pa oa:Option Addr) (pc oc:Nat),f+k=311∧X=k+2∧L=(ps k).length∧L≤n∧p= .slice pa L pc∧o= .slice oa L oc∧x= .int .u64 (X:Int)∧RtIn w w.heap.size third (ps k) (ps k) pa oa pc oc wr
def Rt2 (wq:World) (X:Nat) (l:List Nat) (f:Nat) (i:Value) (wr:World):Prop:=
 ∃j:Nat,f+j=l.length∧i= .int .i64 (j:Int)∧(∀q,(h:q<l.length)→q<j→X%l[q]≠0)∧wq=wr
def Rt3 (wq:World) (third:Bool) (x:Nat) (f:Nat) (lo hi:Value) (wr:World):Prop:=
 ∃a b:Nat,lo= .int .u64 (a:Int)∧hi= .int .u64 (b:Int)∧a<b∧b≤85899345920∧b-a≤2^f∧bs third x f a b=rt third x∧wq=wr
theorem power_any (y x:Nat) (third:Bool) (w:World) (hy:y<2^37) (hx:x<65536):
  Calls Tryz.prog 204 #[.int .u64 (y:Int),.int .u64 (x:Int),.bool third] w fun e w'=>e= .returned (.bool (pwB third y x))∧w=w':=by
 cases third
 ·exact power_sq y x w hy hx
 ·exact power_cu y x w hy hx
theorem bs_yes {third:Bool} {x f a b m:Nat} (h:1<b-a) (hm:m=a+(b-a)/2) (hp:pwB third m x=true):bs third x (f+1) a b=bs third x f m b:=by subst hm;rw [bs,if_pos h,if_pos hp]
theorem bs_no {third:Bool} {x f a b m:Nat} (h:1<b-a) (hm:m=a+(b-a)/2) (hp:pwB third m x=false):bs third x (f+1) a b=bs third x f a m:=by subst hm;rw [bs,if_pos h,hp];rfl
set_option maxHeartbeats 1000000 in
set_option maxRecDepth 40000 in
theorem roots_any (n:Nat) (third:Bool) (w:World) (hn:n≤64):
  Calls Tryz.prog 195 #[.int .i64 (n:Int),.bool third] w fun e w'=>∃k a c,(ps k).length=n∧e= .returned (.slice a n c)∧Own w' w.heap.size 196 1 a n c ((rtsF third (ps k)).map wv)∧Below w.heap.size w w':=by
 go_enter Tryz.func195,Tryz.ntmps195
 go_wp2_with fail
 go_step3
 go_wp2_with fail
 go_step3
 go_wp2_with fail
 go_loopg [5,6,7] 311 (Rt1 w n third)
 case atStart=>exact ⟨0,2,0,none,none,0,0,by omega,rfl,rfl,by omega,rfl,rfl,rfl,⟨Own.nil _ _ _ _,Own.nil _ _ _ _,Below.refl _ _⟩⟩
 case round=>
  obtain ⟨k,X,L,pa,oa,pc,oc,hf,hX,hL,hLn,rfl,rfl,rfl,hI⟩:=hrel
  have hpm:=hI.primes.le_max
  rw [←hL] at hpm
  unfold maxLen at hpm
  have hln:L≤k:=by rw [hL];exact ps_len k
  by_cases hlt:L<n
  ·have tl:decide (L<n)=true:=by simpa using hlt
   have hk:k<310:=ps_lt (by omega)
   have hXl:X<65536:=by omega
   have HF:=Lib.hid hf
   have HX:=Lib.hid hX
   have HL:=Lib.hid hL
   clear hf hX hL
   obtain ⟨g0,rfl⟩:∃g:Nat,g=gk:=⟨_,rfl⟩
   obtain ⟨wo,rfl⟩:∃wo:World,wo=wr:=⟨_,rfl⟩
   go_wp2_with fail
   go_loopg [21,9] L (fun f i _ wr=>Rt2 wo X (ps k) f i wr)
   case atStart=>exact ⟨0,by rw [←HL.out];omega,rfl,fun q _ h=>by omega,rfl⟩
   case round=>
    obtain ⟨j,hf,rfl,hno,rfl⟩:=hrel
    have hlen:=HL.out
    by_cases hj:j<L
    ·have tj:decide (j<L)=true:=by simpa using hj
     have hjl:j<(ps k).length:=by rw [←hlen];exact hj
     obtain ⟨b,o,hpa,hc⟩:=hI.primes.row j (by simpa using hjl)
     subst hpa
     obtain ⟨p,hp⟩:∃p,p=(ps k)[j]:=⟨_,rfl⟩
     have hc':wo.cell? ⟨b,o+j,none⟩=some (.int .u64 (p:Int)):=by
      rw [hc,hp];simp [nv]
     have hp2:2≤p:=by rw [hp];exact (ps_two k _ (List.getElem_mem _)).1
     have hp2I:(2:Int)≤(p:Int):=by omega
     have HP:=Lib.hid hp
     have HN:=Lib.hid hno
     have HF2:=Lib.hid hf
     have HC:=Lib.hid hlen
     clear hc hp hno hf hlen
     by_cases hd:X%p=0
     ·have td:((X:Int)%(p:Int)==0)=true:=by rw [beq_iff_eq];exact_mod_cast hd
      have HD:=Lib.hid hd
      clear hd
      go_wp2_with fail
      go_roundg (g0-1)
      case rel=>
       have hf:=HF.out
       have hX:=HX.out
       have e:ps (k+1)=ps k:=by
        rw [ps,psStep,if_neg]
        intro h
        have:=List.all_eq_true.1 h _ (List.getElem_mem hjl)
        rw [←HP.out,←hX] at this
        simp [HD.out] at this
       exact ⟨k+1,X+1,L,_,_,_,_,by omega,by omega,by rw [e];exact HL.out,hLn,rfl,rfl,by go_num,by rw [e];exact hI⟩
      case measure=>have hf:=HF.out;omega
     ·have td:((X:Int)%(p:Int)==0)=false:=by rw [beq_eq_false_iff_ne];exact_mod_cast hd
      have HD:=Lib.hid hd
      clear hd
      go_wp2_with fail
      go_roundg (gk-1)
      case rel=>
       have hf:=HF2.out
       refine ⟨j+1,by omega,by go_num,fun q hq hqj=> ?_,rfl⟩
       by_cases e:q=j
       ·subst e;rw [←HP.out];exact HD.out
       ·exact HN.out q hq (by omega)
      case measure=>have hf:=HF2.out;have:=HC.out;omega
    ·have tj:decide (j<L)=false:=by simpa using hj
     have hall:ps (k+1)=ps k++ [X]:=by
      have hX:=HX.out
      rw [ps,psStep,if_pos,hX]
      rw [List.all_eq_true]
      intro p hp
      obtain ⟨q,hq,rfl⟩:=List.getElem_of_mem hp
      have:=hno q hq (by omega)
      rw [hX] at this
      simpa using this
     have HA:=Lib.hid hall
     have hk':(k:Nat)<310:=hk
     have hown1:=hI.primes
     have hown2:=hI.out
     rw [←hlen] at hown1 hown2
     have hb:=hI.below
     clear hall hno hf hlen hI
     have hsz:=hb.size
     go_wp2_with (at_builtin;refine wpList_append_row rfl (.tmp 30) (.tmp 32) 278 rfl u64sT rfl (hown1.alloc _) rfl (RowAt.new' _ _ _ _ (by simp)) (by rfl) (by exact all_one _ rfl) (by unfold maxLen;omega) (by omega) (by simp;omega) ?_)
     intro pa' pc' w4 hown4 hg4
     have hb4:=(hown1.alloc (.cells #[Value.int .u64 (X:Int)] 105)).grown (hb.alloc hsz _) (Nat.le_refl _) hg4 (by simp;omega)
     have hout4:=(hown2.alloc (.cells #[Value.int .u64 (X:Int)] 105)).apart (hown1.alloc _) (by decide) hg4
     clear hown1 hown2 hg4 hb
     go_wp2_with fail
     go_loopg [10,11] 64 (Rt3 w4 third X)
     case atStart=>exact ⟨0,85899345920,rfl,rfl,by omega,by omega,by omega,rfl,rfl⟩
     case round=>
      obtain ⟨a,b,rfl,rfl,hab,hbm,hgap,hbs,rfl⟩:=hrel
      obtain ⟨d,hd⟩:∃d,d=b-a:=⟨_,rfl⟩
      have hdI:(b:Int)-(a:Int)=(d:Int):=by omega
      have HBS:=Lib.hid hbs
      clear hbs
      by_cases h1:1<d
      ·have t1:decide ((1:Int)<(d:Int))=true:=by simp;omega
       obtain ⟨e,he⟩:∃e,e=d/2:=⟨_,rfl⟩
       have heI:(d:Int)/2=(e:Int):=by omega
       obtain ⟨m,hm⟩:∃m,m=a+e:=⟨_,rfl⟩
       have hmI:(a:Int)+(e:Int)=(m:Int):=by omega
       obtain ⟨f',hf'⟩:∃f',gk=f'+1:=⟨gk-1,by
        rcases Nat.eq_zero_or_pos gk with h0|h0
        ·subst h0;omega
        ·omega⟩
       have hpow:2^gk=2*2^f':=by rw [hf',Nat.pow_succ,Nat.mul_comm]
       have HMD:=Lib.hid (show m=a+(b-a)/2 by omega)
       have HG:=Lib.hid (show b-m≤2^f'∧m-a≤2^f' by omega)
       have HF':=Lib.hid hf'
       have hm1:a<m:=by omega
       have hm2:m<b:=by omega
       have h1':1<b-a:=by omega
       clear hgap hpow hd he hm hf'
       cases hpb:pwB third m X with
       |true=>
        have HPB:=Lib.hid hpb
        go_wp2_with fail
        refine (power_any m X third _ (by omega) hXl).mono ?_
        rw [HPB.out]
        clear hpb
        rintro e' w' ⟨rfl,rfl⟩
        go_wp2_with fail
        go_roundg f'
        case rel=>exact ⟨m,b,rfl,rfl,hm2,hbm,HG.out.1,by rw [←HBS.out,HF'.out,bs_yes h1' HMD.out HPB.out],rfl⟩
        case measure=>have:=HF'.out;omega
       |false=>
        have HPB:=Lib.hid hpb
        go_wp2_with fail
        refine (power_any m X third _ (by omega) hXl).mono ?_
        rw [HPB.out]
        clear hpb
        rintro e' w' ⟨rfl,rfl⟩
        go_wp2_with fail
        go_roundg f'
        case rel=>exact ⟨a,m,rfl,rfl,hm1,by omega,HG.out.2,by rw [←HBS.out,HF'.out,bs_no h1' HMD.out HPB.out],rfl⟩
        case measure=>have:=HF'.out;omega
      ·have t1:decide ((1:Int)<(d:Int))=false:=by simp;omega
       have hrt:rt third X=a:=by rw [←HBS.out];exact bs_done _ _ _ _ (by omega) _
       have hU:=U32_nat a
       rw [←hrt] at hU
       have HRT:=Lib.hid hrt
       have hU':(a:Int)%4294967296=U32 (BitVec.ofNat 32 (rt third X)):=by rw [HRT.out];exact U32_nat a
       clear hU hrt hd hgap
       have hsz4:=hb4.size
       go_wp2_with (at_builtin;refine wpList_append_row rfl (.tmp 50) (.tmp 53) 271 rfl u32sT rfl (hout4.alloc _) rfl (RowAt.new' _ _ _ _ (by simp)) (by rfl) (by exact all_one _ rfl) (by unfold maxLen;omega) (by omega) (by simp;omega) ?_)
       intro oa' oc' w5 hown5 hg5
       have hb5:=(hout4.alloc (.cells #[Value.int .u32 (U32 (BitVec.ofNat 32 (rt third X)))] 196)).grown (hb4.alloc hsz4 _) (Nat.le_refl _) hg5 (by simp;omega)
       have hpr5:=(hown4.alloc (.cells #[Value.int .u32 (U32 (BitVec.ofNat 32 (rt third X)))] 196)).apart (hout4.alloc _) (by decide) hg5
       clear hU'
       go_wp2_with fail
       go_roundg (g0-1)
       case rel=>
        have hf:=HF.out
        have hX:=HX.out
        have hL:=HL.out
        have e:=HA.out
        have el:(ps (k+1)).length=L+1:=by rw [e,List.length_append,←hL];rfl
        refine ⟨k+1,X+1,L+1,pa',oa',pc',oc',by omega,by omega,el.symm,by omega,rfl,rfl,by go_num,?_⟩
        refine ⟨?_,?_,hb5⟩
        ·rw [el,e,List.map_append];exact hpr5
        ·rw [el,e,rts_snoc];exact hown5
       case measure=>have hf:=HF.out;omega
  ·have tl:decide (L<n)=false:=by simpa using hlt
   obtain rfl:L=n:=by omega
   have HL:=Lib.hid hL
   clear hf hX hL
   go_wp2_with fail
   (try rw [Exit.noGoto_ret])
   go_ret
   refine ⟨k,oa,oc,HL.out.symm,rfl,?_,hI.below⟩
   have:=hI.out
   rw [←HL.out] at this
   exact this
open Go.RowKit
def rr (x:BitVec 32) (n:Nat):BitVec 32:=(x<<<(32-n))|||(x>>>n)
def sg0 (x:BitVec 32):BitVec 32:=rr x 7^^^rr x 18^^^x>>>3
def sg1 (x:BitVec 32):BitVec 32:=rr x 17^^^rr x 19^^^x>>>10
def wx (w:Nat→BitVec 32):Nat→Nat→BitVec 32
 |0=>w
 |k+1=>fun j=>if j=16+k then wx w k (16+k-16)+wx w k (16+k-7)+sg0 (wx w k (16+k-15))+sg1 (wx w k (16+k-2)) else wx w k j
def uu (v:Nat→BitVec 32) (k w:BitVec 32):BitVec 32:=v 7+(rr (v 4) 6^^^rr (v 4) 11^^^rr (v 4) 25)+((v 4&&&v 5)^^^(~~~v 4&&&v 6))+k+w
def xx (v:Nat→BitVec 32):BitVec 32:=(rr (v 0) 2^^^rr (v 0) 13^^^rr (v 0) 22)+((v 0&&&v 1)^^^(v 0&&&v 2)^^^(v 1&&&v 2))
def rd (v:Nat→BitVec 32) (k w:BitVec 32):Nat→BitVec 32:=fun j=>if j=0 then uu v k w+xx v else if j=4 then v 3+uu v k w else v (j-1)
def kwd (i:Nat):BitVec 32:=kVal.getD i 0#32
def hwd (i:Nat):BitVec 32:=hVal.getD i 0#32
def vs (h w:Nat→BitVec 32):Nat→Nat→BitVec 32
 |0=>h
 |t+1=>rd (vs h w t) (kwd t) (w t)
def cmp (h w:Nat→BitVec 32):Nat→BitVec 32:=fun j=>h j+vs h (wx w 48) 64 j
def byt (l:List UInt8) (i:Nat):BitVec 8:=(l.getD i 0).toBitVec
def wpart (l:List UInt8) (p:Nat):Nat→BitVec 32
 |0=>0#32
 |q+1=>wpart l p q<<<8|||(byt l (p+q)).setWidth 32
def wd (l:List UInt8) (o t:Nat):BitVec 32:=wpart l (o+4*t) 4
def stt (l:List UInt8):Nat→Nat→BitVec 32
 |0=>hwd
 |i+1=>cmp (stt l i) (wd l (64*i))
theorem wpart_eq {l m:List UInt8} {p q:Nat}:∀{n:Nat},(∀i,i<n→byt l (p+i)=byt m (q+i))→wpart l p n=wpart m q n
 |0,_=>rfl
 |n+1,h=>by rw [wpart,wpart,wpart_eq (fun i hi=>h i (by omega)),h n (by omega)]
theorem wx_eq {w u:Nat→BitVec 32} (h:∀t,t<16→w t=u t):∀k,k≤48→∀j,j<16+k→wx w k j=wx u k j
 |0,_,j,hj=>h j (by omega)
 |k+1,hk,j,hj=>by
  have ih:=wx_eq h k (by omega)
  simp only [wx]
  by_cases e:j=16+k
  ·rw [if_pos e,if_pos e,ih _ (by omega),ih _ (by omega),ih _ (by omega),ih _ (by omega)]
  ·rw [if_neg e,if_neg e,ih j (by omega)]
theorem rd_eq {v u:Nat→BitVec 32} (h:∀j,j<8→v j=u j) (k w:BitVec 32):∀j,j<8→rd v k w j=rd u k w j:=fun j hj=>by
 unfold rd uu xx
 rw [h 0 (by omega),h 1 (by omega),h 2 (by omega),h 3 (by omega),h 4 (by omega),h 5 (by omega),h 6 (by omega),h 7 (by omega)]
 by_cases e:j=0
 ·rw [if_pos e,if_pos e]
 ·rw [if_neg e,if_neg e,h (j-1) (by omega)]
theorem vs_eq {h g w u:Nat→BitVec 32} (hh:∀j,j<8→h j=g j) (hw:∀t,t<64→w t=u t):∀t,t≤64→∀j,j<8→vs h w t j=vs g u t j
 |0,_,j,hj=>hh j hj
 |t+1,ht,j,hj=>by
  rw [vs,vs,hw t (by omega)]
  exact rd_eq (vs_eq hh hw t (by omega)) _ _ j hj
theorem cmp_eq {h g w u:Nat→BitVec 32} (hh:∀j,j<8→h j=g j) (hw:∀t,t<16→w t=u t):∀j,j<8→cmp h w j=cmp g u j:=fun j hj=>by
 unfold cmp
 rw [hh j hj,vs_eq hh (fun t ht=>wx_eq hw 48 (by omega) t (by omega)) 64 (by omega) j hj]
theorem wd_eq {l m:List UInt8} {o p t:Nat} (h:∀i,i<64→byt l (o+i)=byt m (p+i)) (ht:t<16):wd l o t=wd m p t:=
 wpart_eq fun i hi=>by
  have:=h (4*t+i) (by omega)
  rwa [show o+4*t+i=o+(4*t+i) by omega,show p+4*t+i=p+(4*t+i) by omega]
theorem stt_eq {l m:List UInt8}:∀i,(∀k,k<64*i→byt l k=byt m k)→∀j,j<8→stt l i j=stt m i j
 |0,_,_,_=>rfl
 |i+1,h,j,hj=>by
  rw [stt,stt]
  exact cmp_eq (stt_eq i fun k hk=>h k (by omega)) (fun t ht=>wd_eq (fun q hq=>h (64*i+q) (by omega)) ht) j hj
end
end Go.Proofs.YtioigihakjlopaaGreat

/- Texts put together and cut to what is used: AesA, AesMix. -/
import Derived.Test.YtioigihakjlopaaGreatVB03
import Derived.WalkKit
import Derived.Test.YtioigihakjlopaaGreatRows
namespace Go.Proofs.YtioigihakjlopaaGreat
set_option linter.unusedVariables false
set_option linter.unusedSimpArgs false
section
open Go.RowKit
def xt (x:BitVec 8):BitVec 8:=(x<<<1)^^^((x>>>7)*27#8)
def xts:Nat→BitVec 8→BitVec 8
 |0,x=>x
 |k+1,x=>xt (xts k x)
def tims (x y:BitVec 8):Nat→BitVec 8
 |0=>0#8
 |k+1=>tims x y k^^^(if y.getLsbD k then xts k x else 0#8)
def tim (x y:BitVec 8):BitVec 8:=tims x y 8
theorem xt_if:∀x:BitVec 8,xt x=(x<<<1)^^^(if x.getLsbD 7 then 27#8 else 0#8):=by decide+kernel
theorem xor_turn (a b c d:BitVec 8):(a^^^b)^^^(c^^^d)=(a^^^c)^^^(b^^^d):=by
 rw [BitVec.xor_assoc,BitVec.xor_assoc,←BitVec.xor_assoc b c d,BitVec.xor_comm b c,BitVec.xor_assoc c b d]
theorem if_xor (p q:Bool) (c:BitVec 8):(if (p^^q) then c else 0#8)=(if p then c else 0#8)^^^(if q then c else 0#8):=by
 cases p<;>cases q<;>simp
theorem xt_xor (a b:BitVec 8):xt (a^^^b)=xt a^^^xt b:=by
 rw [xt_if,xt_if,xt_if,BitVec.getLsbD_xor,if_xor,BitVec.shiftLeft_xor_distrib,xor_turn]
theorem xts_xor (a b:BitVec 8):∀k,xts k (a^^^b)=xts k a^^^xts k b
 |0=>rfl
 |k+1=>by rw [xts,xts_xor a b k,xt_xor];rfl
theorem tims_end (x y:BitVec 8) (k:Nat) (h:y>>>k=0#8):∀n,tims x y (k+n)=tims x y k
 |0=>rfl
 |n+1=>by
  have e:y.getLsbD (k+n)=false:=by
   have:=congrArg (fun b=>b.getLsbD n) h
   simpa using this
  rw [←Nat.add_assoc,tims,tims_end x y k h n,e]
  simp
def pw (x:BitVec 8):BitVec 8:=
 let f:=fun y=>tim (tim y y) x
 let y:=f (f (f (f (f (f x)))))
 tim y y
def pws:Nat→BitVec 8→BitVec 8
 |0,x=>x
 |k+1,x=>tim (tim (pws k x) (pws k x)) x
def rotl (y:BitVec 8) (k:Nat):BitVec 8:=(y<<<(k%8))|||(y>>>(8-k%8))
def bxs (y:BitVec 8):Nat→BitVec 8
 |0=>99#8
 |k+1=>bxs y k^^^rotl y k
def bx (x:BitVec 8):BitVec 8:=bxs (pw x) 5
open Go.RowKit
def tb (n:Nat) (f:Nat→BitVec 8):Nat→BitVec 8:=fun j=>if j<n then f j else 0#8
def lst (l:List (BitVec 8)):Nat→BitVec 8:=fun j=>l.getD j 0#8
theorem tb_at {n j:Nat} (f:Nat→BitVec 8) (h:j<n):tb n f j=f j:=if_pos h
theorem tb_eq {n:Nat} {f g:Nat→BitVec 8} (h:∀j,j<n→f j=g j):tb n f=tb n g:=by
 funext j
 unfold tb
 split
 ·exact h j ‹_›
 ·rfl
theorem tb_lst {n:Nat} {f:Nat→BitVec 8} {l:List (BitVec 8)} (hl:l.length=n) (h:∀j,j<n→f j=l.getD j 0#8):tb n f=lst l:=by
 funext j
 unfold tb lst
 split
 ·exact h j ‹_›
 ·rw [List.getD_eq_getElem?_getD,List.getElem?_eq_none (by omega)];rfl
def sx (a b:Nat→BitVec 8):Nat→BitVec 8:=tb 16 fun j=>a j^^^b j
def thr (f:BitVec 8→BitVec 8) (s:Nat→BitVec 8):Nat→BitVec 8:=tb 16 fun j=>f (s j)
def frm (i:Nat):Nat:=(i+4*(i%4))%16
def too (j:Nat):Nat:=(j+12*(j%4))%16
theorem too_frm:∀i,i<16→too (frm i)=i∧frm (too i)=i∧frm i<16∧too i<16:=by decide
def trn (s:Nat→BitVec 8):Nat→BitVec 8:=tb 16 fun j=>s (frm j)
def mxs (m s:Nat→BitVec 8) (i:Nat):Nat→BitVec 8
 |0=>0#8
 |k+1=>mxs m s i k^^^tim (m ((k+4-i%4)%4)) (s (i/4*4+k))
def mx (m s:Nat→BitVec 8):Nat→BitVec 8:=tb 16 fun i=>mxs m s i 4
def nk0 (r:BitVec 8) (w:Nat→BitVec 8) (c:Nat):BitVec 8:=bx (w (12+(c+1)%4))^^^(if c=0 then r else 0#8)
def nkc (r:BitVec 8) (w:Nat→BitVec 8) (c:Nat):Nat→BitVec 8
 |0=>nk0 r w c^^^w c
 |q+1=>nkc r w c q^^^w (4*(q+1)+c)
def nk (r:BitVec 8) (w:Nat→BitVec 8):Nat→BitVec 8:=tb 16 fun j=>nkc r w (j%4) (j/4)
def rc:Nat→BitVec 8
 |0=>1#8
 |k+1=>tim (rc k) 2#8
def rk (key:Nat→BitVec 8):Nat→Nat→BitVec 8
 |0=>tb 16 key
 |k+1=>nk (rc k) (rk key k)
def mE:Nat→BitVec 8:=lst [2#8,3#8,1#8,1#8]
def rnd (key:Nat→BitVec 8) (r:Nat) (s:Nat→BitVec 8):Nat→BitVec 8:=
 sx (if r<10 then mx mE (trn (thr bx s)) else trn (thr bx s)) (rk key r)
def encs (key s:Nat→BitVec 8):Nat→Nat→BitVec 8
 |0=>sx s (rk key 0)
 |r+1=>rnd key (r+1) (encs key s r)
def enc (key s:Nat→BitVec 8):Nat→BitVec 8:=encs key s 10
def ibx (z:BitVec 8):BitVec 8:=rotl z 1^^^rotl z 3^^^rotl z 6^^^5#8
theorem ibx_bxs:∀y:BitVec 8,ibx (bxs y 5)=y:=by decide+kernel
theorem bxs_ibx:∀y:BitVec 8,bxs (ibx y) 5=y:=by decide+kernel
theorem pw_pw:∀x:BitVec 8,pw (pw x)=x:=by decide+kernel
def un (z:BitVec 8):BitVec 8:=pw (ibx z)
theorem un_bx (x:BitVec 8):un (bx x)=x:=by rw [un,bx,ibx_bxs,pw_pw]
theorem bx_un (x:BitVec 8):bx (un x)=x:=by rw [un,bx,pw_pw,bxs_ibx]
def mm (a b:Nat→BitVec 8) (i k:Nat):BitVec 8:=tim (a ((0+4-i)%4)) (b ((k+4-0)%4))^^^tim (a ((1+4-i)%4)) (b ((k+4-1)%4))^^^tim (a ((2+4-i)%4)) (b ((k+4-2)%4))^^^tim (a ((3+4-i)%4)) (b ((k+4-3)%4))
open Go.RowKit
def B8 (a:BitVec 8):Int:=a.toNat
theorem B8_lo (a:BitVec 8):0≤B8 a:=by simp [B8]
theorem B8_hi (a:BitVec 8):B8 a≤255:=by have:=a.isLt;simp only [B8];omega
theorem B8_inj {a b:BitVec 8}:B8 a=B8 b↔a=b:=by
 simp only [B8]
 constructor
 ·intro h;exact BitVec.eq_of_toNat_eq (by exact_mod_cast h)
 ·rintro rfl;rfl
theorem B8_beq (a b:BitVec 8):(B8 a==B8 b)=(a==b):=by
 rw [Bool.eq_iff_iff];simp [B8_inj]
theorem ofInt_B8 (a:BitVec 8):BitVec.ofInt 8 (B8 a)=a:=by simp [B8]
theorem wrap_B8 (a:BitVec 8):IntKind.u8.wrap (a.toNat:Int)=B8 a:=by
 rw [IntWalk.u8_in];rfl
 have:=a.isLt;omega
theorem bits_xor_B8 (x y:Int):bits .xor .u8 x y=B8 (BitVec.ofInt 8 x^^^BitVec.ofInt 8 y):=wrap_B8 _
theorem bits_and_B8 (x y:Int):bits .and .u8 x y=B8 (BitVec.ofInt 8 x&&&BitVec.ofInt 8 y):=wrap_B8 _
theorem bits_or_B8 (x y:Int):bits .or .u8 x y=B8 (BitVec.ofInt 8 x|||BitVec.ofInt 8 y):=wrap_B8 _
theorem B8_shr (a:BitVec 8) (k:Nat):B8 a/(2:Int)^k=B8 (a>>>k):=by
 simp only [B8,BitVec.toNat_ushiftRight,Nat.shiftRight_eq_div_pow];norm_cast
theorem B8_shr1 (a:BitVec 8):B8 a/(2:Int)=B8 (a>>>1):=B8_shr a 1
theorem B8_shr7 (a:BitVec 8):B8 a/(128:Int)=B8 (a>>>7):=B8_shr a 7
theorem B8_shl (a:BitVec 8) (k:Nat):B8 a*(2:Int)^k%(256:Int)=B8 (a<<<k):=by
 simp only [B8,BitVec.toNat_shiftLeft,Nat.shiftLeft_eq];simp
theorem B8_shl1 (a:BitVec 8):B8 a*(2:Int)%(256:Int)=B8 (a<<<1):=B8_shl a 1
attribute [local go_sem] bits_xor_B8 bits_and_B8 bits_or_B8 ofInt_B8
theorem low_bit:∀z:BitVec 8,(B8 (z&&&1#8)==1)=z.getLsbD 0:=by decide+kernel
theorem bit_at (y:BitVec 8) (k:Nat):(B8 (y>>>k&&&1#8)==1)=y.getLsbD k:=by
 rw [low_bit];simp
theorem half_zero (z:BitVec 8):(B8 z/2==0)=(z>>>1==0#8):=by rw [B8_shr1];exact B8_beq (z>>>1) 0#8
theorem xt_mul (x:BitVec 8):BitVec.ofInt 8 (B8 x*2%256)^^^BitVec.ofInt 8 (B8 x/128*27)=xt x:=by
 rw [B8_shr7,B8_shl1,ofInt_B8,show BitVec.ofInt 8 (B8 (x>>>7)*27)=(x>>>7)*27#8 from by
  have:B8 (x>>>7)*(27:Int)=((((x>>>7).toNat*27:Nat)):Int):=by simp [B8]
  rw [this,BitVec.ofInt_natCast]
  apply BitVec.eq_of_toNat_eq
  simp [BitVec.toNat_mul]];rfl
theorem shr_last:∀y:BitVec 8,y>>>7>>>1=0#8:=by decide+kernel
def TimesRel (w:World) (x y:BitVec 8) (f:Nat) (x' y' p':Value) (w':World):Prop:=
 ∃k,f+k=7∧p'= .int .u8 (B8 (tims x y k))∧x'= .int .u8 (B8 (xts k x))∧y'= .int .u8 (B8 (y>>>k))∧w=w'
set_option maxHeartbeats 400000 in
theorem times_any (x y:BitVec 8) (w:World):
  Calls Tryz.prog 169 #[.int .u8 (B8 x),.int .u8 (B8 y)] w fun e w'=>e= .returned (.int .u8 (B8 (tim x y)))∧w=w':=by
 go_enter Tryz.func169,Tryz.ntmps169
 go_wp2_with fail
 go_step3
 go_wp2_with fail
 go_step3
 go_wp2_with fail
 go_loopg [0,1,5] 7 (TimesRel w x y)
 case atStart=>exact ⟨0,by omega,rfl,rfl,rfl,rfl⟩
 case round=>
  obtain ⟨k,hk,rfl,rfl,rfl,rfl⟩:=hrel
  have t1:=bit_at y k
  have t2:=half_zero (y>>>k)
  have b0:=B8_lo (y>>>k)
  have b1:=B8_hi (y>>>k)
  have b2:=B8_lo (xts k x)
  have b3:=B8_hi (xts k x)
  have P0:∀q:Bool,y.getLsbD k=q→tims x y (k+1)=tims x y k^^^(if q then xts k x else 0#8):=fun q h=>by rw [←h];rfl
  have P:=Lib.hid P0
  clear P0
  by_cases hz:y>>>k>>>1=0#8
  ·have hz':(y>>>k>>>1==0#8)=true:=by simpa using hz
   rw [hz'] at t2
   have E0:tims x y (k+1)=tim x y:=by
    have hz'':y>>>(k+1)=0#8:=by rw [←hz,BitVec.shiftRight_add]
    have:=tims_end x y (k+1) hz'' (7-k)
    rw [show k+1+(7-k)=8 by omega] at this
    exact this.symm
   have EE:=Lib.hid E0
   clear E0 hz hz'
   cases hb:y.getLsbD k with
   |true=>
    rw [hb] at t1
    have HB:=Lib.hid hb
    clear hb
    go_wp2_with fail
    (try rw [Exit.noGoto_ret])
    go_ret
    refine ⟨?_,rfl⟩
    rw [←EE.out,P.out true HB.out];rfl
   |false=>
    rw [hb] at t1
    have HB:=Lib.hid hb
    clear hb
    go_wp2_with fail
    (try rw [Exit.noGoto_ret])
    go_ret
    refine ⟨?_,rfl⟩
    rw [←EE.out,P.out false HB.out];simp
  ·have hz':(y>>>k>>>1==0#8)=false:=by simpa using hz
   rw [hz'] at t2
   have hk7:k<7:=by
    rcases Nat.lt_or_ge k 7 with h|h
    ·exact h
    ·exact absurd (by rw [show k=7 by omega];exact shr_last y) hz
   clear hz hz'
   have hgk:gk-1+(k+1)=7∧gk-1<gk:=by omega
   have HK:=Lib.hid hgk
   clear hgk hk
   cases hb:y.getLsbD k with
   |true=>
    rw [hb] at t1
    have HB:=Lib.hid hb
    clear hb
    go_wp2_with fail
    go_roundg (gk-1)
    case rel=>
     refine ⟨k+1,HK.out.1,?_,?_,?_,rfl⟩
     ·rw [P.out true HB.out];rfl
     ·rw [xt_mul];rfl
     ·rw [B8_shr1,BitVec.shiftRight_add]
    case measure=>exact HK.out.2
   |false=>
    rw [hb] at t1
    have HB:=Lib.hid hb
    clear hb
    go_wp2_with fail
    go_roundg (gk-1)
    case rel=>
     refine ⟨k+1,HK.out.1,?_,?_,?_,rfl⟩
     ·rw [P.out false HB.out];simp
     ·rw [xt_mul];rfl
     ·rw [B8_shr1,BitVec.shiftRight_add]
    case measure=>exact HK.out.2
theorem rotl0 (y:BitVec 8):y|||BitVec.ofInt 8 (B8 y/256)=rotl y 0:=by
 have h:B8 y/(2:Int)^8=B8 (y>>>8):=B8_shr y 8
 rw [show (256:Int)=(2:Int)^8 from rfl,h,ofInt_B8];simp [rotl]
theorem rotl_sh (y:BitVec 8) (k:Nat) (p q:Int) (hp:p=(2:Int)^k) (hq:q=(2:Int)^(8-k)) (hk:k<8):BitVec.ofInt 8 (B8 y*p%256)|||BitVec.ofInt 8 (B8 y/q)=rotl y k:=by
 have h:B8 y/(2:Int)^(8-k)=B8 (y>>>(8-k)):=B8_shr y (8-k)
 have h2:B8 y*(2:Int)^k%(256:Int)=B8 (y<<<k):=B8_shl y k
 rw [hp,hq,h,h2,ofInt_B8,ofInt_B8,rotl,Nat.mod_eq_of_lt hk]
theorem rotl_any (y:BitVec 8) (k:Nat) (hk:k<5) (w:World):
  Calls Tryz.prog 189 #[.int .u8 (B8 y),.int .i64 (k:Int)] w fun e w'=>e= .returned (.int .u8 (B8 (rotl y k)))∧w=w':=by
 have b0:=B8_lo y
 have b1:=B8_hi y
 have t0:bits .and .u64 0 7=0:=by decide
 have t1:bits .and .u64 1 7=1:=by decide
 have t2:bits .and .u64 2 7=2:=by decide
 have t3:bits .and .u64 3 7=3:=by decide
 have t4:bits .and .u64 4 7=4:=by decide
 have hcs:k=0∨k=1∨k=2∨k=3∨k=4:=by omega
 rcases hcs with rfl|rfl|rfl|rfl|rfl
 all_goals
  go_enter Tryz.func189,Tryz.ntmps189
  go_wp2_with fail
  go_ret
 ·exact ⟨by rw [←rotl0 y];rfl,rfl⟩
 ·exact ⟨by rw [←rotl_sh y 1 2 128 rfl rfl (by omega)];rfl,rfl⟩
 ·exact ⟨by rw [←rotl_sh y 2 4 64 rfl rfl (by omega)];rfl,rfl⟩
 ·exact ⟨by rw [←rotl_sh y 3 8 32 rfl rfl (by omega)];rfl,rfl⟩
 ·exact ⟨by rw [←rotl_sh y 4 16 16 rfl rfl (by omega)];rfl,rfl⟩
theorem intInfo:(Tryz.prog.info? 3).map (·.size)=some 1:=by kernel_rfl
theorem five_at (k:Nat) (h:k<5):(#[Value.int .i64 0,.int .i64 1,.int .i64 2,.int .i64 3,.int .i64 4])[k]? =some (.int .i64 (k:Int)):=by
 have hcs:k=0∨k=1∨k=2∨k=3∨k=4:=by omega
 rcases hcs with rfl|rfl|rfl|rfl|rfl<;>rfl
set_option maxHeartbeats 400000 in
theorem box_any (x:BitVec 8) (w:World):
  Calls Tryz.prog 168 #[.int .u8 (B8 x)] w fun e w'=>e= .returned (.int .u8 (B8 (bx x)))∧w=w':=by
 go_enter Tryz.func168,Tryz.ntmps168
 go_wp2_with fail
 go_loop [3,8] (fun y i=>∃k:Nat,k≤6∧i= .int .i64 k∧y= .int .u8 (B8 (pws k x))) (fun _ i=>6-(intOf i).toNat)
 case atStart=>exact ⟨0,by omega,rfl,rfl⟩
 case round=>
  obtain ⟨k,hk,rfl,rfl⟩:=hrel
  by_cases hlt:k<6
  ·go_wp2_with (go_at_call 169;refine (times_any _ _ _).mono ?_;rintro e w' ⟨rfl,rfl⟩)
   go_round
   case rel=>exact ⟨k+1,by omega,by go_num,rfl⟩
   case measure=>simp [intOf];omega
  ·obtain rfl:k=6:=by omega
   go_wp2_with (go_at_call 169;refine (times_any _ _ _).mono ?_;rintro e w' ⟨rfl,rfl⟩)
   go_loop [4,20] (fun o i=>∃k:Nat,k≤5∧i= .int .i64 k∧o= .int .u8 (B8 (bxs (pw x) k))) (fun _ i=>5-(intOf i).toNat)
   case atStart=>exact ⟨0,by omega,rfl,rfl⟩
   case round=>
    obtain ⟨k,hk,rfl,rfl⟩:=hrel
    by_cases hlt:k<5
    ·have hi:∀W,(Instr.index 261 (.agg #[.int .i64 0,.int .i64 1,.int .i64 2,.int .i64 3,.int .i64 4]) (.int .i64 (k:Int))).run Tryz.prog W= .ok (.int .i64 (k:Int)) W:=fun W=>
      run_index_arr Tryz.underlying261 Tryz.underlying3 rfl intInfo W _ k _ (five_at k hlt) hlt
     go_wp2_with (go_at_call 189;refine (rotl_any _ _ hlt _).mono ?_;rintro e w' ⟨rfl,rfl⟩)
     go_round
     case rel=>exact ⟨k+1,by omega,by go_num,rfl⟩
     case measure=>simp [intOf];omega
    ·go_wp2_with fail
     go_ret
     obtain rfl:k=5:=by omega
     exact ⟨rfl,rfl⟩
theorem byte_nat (k:Nat) (h:k<256):(k:Int)=B8 (BitVec.ofNat 8 k):=by
 simp only [B8,BitVec.toNat_ofNat];omega
open Go.RowKit
def fv (a:BitVec 8):Value:= .int .u8 (B8 a)
def fL (n:Nat) (s:Nat→BitVec 8):List Value:=(List.range n).map fun i=>fv (s i)
def fA (n:Nat) (s:Nat→BitVec 8):Array Value:=(fL n s).toArray
theorem fL_length (n:Nat) (s:Nat→BitVec 8):(fL n s).length=n:=by simp [fL]
theorem fA_size (n:Nat) (s:Nat→BitVec 8):(fA n s).size=n:=by simp [fA,fL]
theorem fA_at {n i:Nat} (s:Nat→BitVec 8) (h:i<n):(fA n s)[i]? =some (.int .u8 (B8 (s i))):=by simp [fA,fL,h,fv]
theorem fA_eq {n:Nat} {s t:Nat→BitVec 8} (h:∀i,i<n→s i=t i):fA n s=fA n t:=by
 unfold fA fL
 congr 1
 apply List.map_congr_left
 intro i hi
 rw [h i (List.mem_range.1 hi)]
theorem fA_set {n i:Nat} (s:Nat→BitVec 8) (v:BitVec 8) (_h:i<n):(fA n s).setIfInBounds i (.int .u8 (B8 v))=fA n (fun j=>if j=i then v else s j):=by
 apply Array.ext_getElem?
 intro j
 by_cases hj:j<n
 ·rw [fA_at _ hj]
  by_cases e:i=j
  ·subst e
   simp [fA_size,hj]
  ·rw [Array.getElem?_setIfInBounds_ne e,fA_at _ hj,if_neg (Ne.symm e)]
 ·rw [Array.getElem?_eq_none (by simp [fA_size];omega),Array.getElem?_eq_none (by simp [fA_size];omega)]
theorem fA_one (n:Nat) (s:Nat→BitVec 8):(fA n s).toList.all (·.oneCell')=true:=by
 simp [fA,fL,fv,Value.oneCell']
theorem fA_tb (n:Nat) (s:Nat→BitVec 8):fA n (tb n s)=fA n s:=fA_eq fun _ h=>tb_at s h
theorem B8_toNat (a:BitVec 8):(B8 a).toNat=a.toNat:=by simp [B8]
theorem B8_lt (a:BitVec 8):B8 a<256:=by have:=B8_hi a;omega
section
variable {a b c w:World} {g:Nat}
theorem onlyA_trans {x:Option Nat} (h:a.grownBy b x) (k:b.grownBy c x):a.grownBy c x:=
 ⟨k.os.trans h.os,k.tape.trans h.tape,k.output.trans h.output,Nat.le_trans h.size k.size,fun i hi hn=>(k.block i (Nat.lt_of_lt_of_le hi h.size) hn).trans (h.block i hi hn)⟩
theorem onlyA_drew {x:Option Nat} (h:a.grownBy w x):a.grownBy w.drew x:=⟨h.os,h.tape,h.output,h.size,h.block⟩
theorem onlyA_alloc {x:Option Nat} (h:a.grownBy w x) (o:Obj):a.grownBy (w.alloc o) x:=onlyA_trans h (World.grownBy_alloc w o x)
theorem onlyA_setCell (h:a.grownBy w (some g)) (i:Nat) (u:Value):a.grownBy (w.setCell ⟨g,i,none⟩ u) (some g):=
 ⟨h.os,h.tape,h.output,by simpa [World.setCell] using h.size,fun k hk hne=>(heap_setCell_other w ⟨g,i,none⟩ k u (by rintro rfl;exact hne rfl)).trans (h.block k hk hne)⟩
theorem onlyA_new {x:Option Nat} (h:a.grownBy w x) {g' i:Nat} (hg:a.heap.size≤g') (u:Value):a.grownBy (w.setCell ⟨g',i,none⟩ u) x:=
 ⟨h.os,h.tape,h.output,by simpa [World.setCell] using h.size,fun k hk hne=>(heap_setCell_other w ⟨g',i,none⟩ k u (by show k≠g';omega)).trans (h.block k hk hne)⟩
theorem onlyA_newRow {x:Option Nat} (h:a.grownBy w x) {g':Nat} (hg:a.heap.size≤g') (cs:Array Value):a.grownBy (w.setRow g' cs) x:=
 ⟨h.os,h.tape,h.output,by simpa [World.setRow] using h.size,fun k hk hne=>(Go.setRow_other w g' k cs (by omega)).trans (h.block k hk hne)⟩
theorem below_only {B:Nat} (h:Below B a w) (hz:B≤w.heap.size) (k:w.grownBy b (some g)) (hg:B≤g):Below B a b:=
 h.grown k hz (fun j hj=>by cases hj;exact hg)
end
theorem step_fun (k:Nat) (new old:Nat→BitVec 8):(fun j=>if j=k then new k else if j<k then new j else old j)=fun j=>if j<k+1 then new j else old j:=by
 funext j
 by_cases h:j=k
 ·subst h;simp
 ·by_cases h2:j<k
  ·simp [h,h2,show j<k+1 by omega]
  ·simp [h,h2,show ¬j<k+1 by omega]
theorem Blk.ofF {w:World} {g n:Nat} {s t:Nat→BitVec 8} {ty:TypeId} (h:Blk w g (fA n s) ty) (e:∀i,i<n→s i=t i):Blk w g (fA n t) ty:=by rw [←fA_eq e];exact h
theorem Blk.setF {w:World} {g n k:Nat} {s:Nat→BitVec 8} {ty:TypeId} (h:Blk w g (fA n s) ty) (hk:k<n) (v:BitVec 8):Blk (w.setCell ⟨g,k,none⟩ (.int .u8 (B8 v))) g (fA n fun j=>if j=k then v else s j) ty:=by
 have:=h.set k (.int .u8 (B8 v))
 rwa [fA_set _ _ hk] at this
theorem Blk.atF {w:World} {g n k:Nat} {s:Nat→BitVec 8} {ty:TypeId} (h:Blk w g (fA n s) ty) (hk:k<n) {v:BitVec 8} (hv:s k=v):w.cell? ⟨g,k,none⟩=some (.int .u8 (B8 v)):=by rw [h.rule,fA_at _ hk,hv]
attribute [local go_sem] bits_xor_B8 bits_and_B8 bits_or_B8 ofInt_B8
theorem frm_int (k:Nat):((k:Int)+4*((k:Int)%4))%16=(frm k:Int):=by simp only [frm];omega
theorem u8InfoA:(Tryz.prog.info? 5).map (·.size)=some 1:=by kernel_rfl
theorem agg16:AggT Tryz.prog 169 16:=⟨⟨_,Tryz.underlying169,rfl⟩,by kernel_rfl⟩
theorem agg4:AggT Tryz.prog 235 4:=⟨⟨_,Tryz.underlying235,rfl⟩,by kernel_rfl⟩
set_option maxHeartbeats 400000 in
set_option maxRecDepth 40000 in
theorem through_any (gb gc o:Nat) (s f:Nat→BitVec 8) (w:World) (hB:Blk w gb (fA 16 s) 169) (hne:gb≠gc)
  (hf:∀i,i<256→w.cell? ⟨gc,o+i,none⟩=some (.int .u8 (B8 (f i)))):
  Calls Tryz.prog 172 #[.pointer (some ⟨gb,0,none⟩),.pointer (some ⟨gc,o,none⟩)] w fun e w'=>
   e= .returned (.tuple #[])∧Blk w' gb (fA 16 (tb 16 fun j=>f (s j).toNat)) 169∧w.grownBy w' (some gb):=by
 have hgc:gc<w.heap.size:=World.block_lt_of_cell? w _ (hf 0 (by omega))
 have HF:=Lib.hid hf
 clear hf
 go_enter Tryz.func172,Tryz.ntmps172
 go_wp2_with fail
 go_loopw [7] (fun i wr=>∃k:Nat,k≤16∧i= .int .i64 k∧Blk wr gb (fA 16 (fun j=>if j<k then f (s j).toNat else s j)) 169∧w.grownBy wr (some gb)) (fun i _=>16-(intOf i).toNat)
 case atStart=>exact ⟨0,by omega,rfl,by simpa using hB,World.grownBy.refl _ _⟩
 case round=>
  obtain ⟨k,hk,rfl,hb,hg⟩:=hrel
  by_cases hlt:k<16
  ·have hx0:=B8_lo (s k)
   have hx1:=B8_lt (s k)
   have hx2:=B8_toNat (s k)
   have C1:∀W,Old wr.drew W→W.cell? ⟨gb,k,none⟩=some (.int .u8 (B8 (s k))):=fun W h=>by rw [(hb.drew.old h).rule,fA_at _ hlt];simp
   have hgc2:gc<wr.heap.size:=Nat.lt_of_lt_of_le hgc hg.size
   go_wp2_with fail
   refine wp_region_old (0::1::2::3::4::5::[]) (by kernel_rfl) (by kernel_rfl) (fun c a d v w h=>by cases d<;>exact h) ?_
   repeat (first|(refine lex_skip rfl (by rfl) ?_;simp only [Act.put,List.setIfInBounds_toArray,List.set])|(refine lex_quiet (v:= ?_) rfl rfl (by rfl) ?_ ?_;rotate_left;(intro W hW;go_simp);(try with_reducible rfl);simp only [Act.put,List.setIfInBounds_toArray,List.set]))
   refine lex_nil ?_
   have C2:∀W,Old wr.drew.drew W→W.cell? ⟨gc,o+(s k).toNat,none⟩=some (.int .u8 (B8 (f (s k).toNat))):=fun W h=>by
    rw [h.cell (p:=⟨gc,o+(s k).toNat,none⟩) hgc2]
    exact (hg.cell (HF.out _ (s k).isLt) (by simpa using hne.symm))
   go_wp2_with fail
   refine wp_region_treeR true Old Old.refl Old.trans (.step 0 (.step 1 (.step 2 (.step 3 (.step 4 (.step 5 (.step 6 (.step 7 (.step 8 (.step 9 .done)))))))))) (by kernel_rfl) (by kernel_rfl) (fun c a d v w h=>by cases d<;>exact h) ?_
   repeat (first|(refine tree_skip rfl (by rfl) ?_;simp only [Act.put,List.setIfInBounds_toArray,List.set])|(refine tree_quiet (v:= ?_) rfl rfl (by rfl) ?_ ?_;rotate_left;(intro W hW;go_simp);(try with_reducible rfl);simp only [Act.put,List.setIfInBounds_toArray,List.set]))
   have hbd:=hb.drew.drew
   have r2:=hbd.rule
   have f2:=hbd.free
   have ck:=fA_at (fun j=>if j<k then f (s j).toNat else s j) hlt
   refine tree_store rfl rfl (by rfl) (fun K hK=> ?_);go_wp2_with fail;refine tree_done ?_
   clear r2 f2
   go_wp2_with fail
   go_roundw
   case rel=>
    refine ⟨k+1,by omega,by go_num,?_,onlyA_setCell (onlyA_drew (onlyA_drew hg)) k _⟩
    exact (hbd.setF hlt (f (s k).toNat)).ofF fun i _=>congrFun (step_fun k (fun j=>f (s j).toNat) s) i
   case measure=>simp [intOf];omega
  ·go_wp2_with fail
   go_end0
   obtain rfl:k=16:=by omega
   refine ⟨rfl,?_,hg⟩
   rw [fA_tb]
   rwa [show fA 16 (fun j=>if j<16 then f (s j).toNat else s j)=fA 16 (fun j=>f (s j).toNat) from fA_eq fun i h=>if_pos h] at hb
set_option maxHeartbeats 400000 in
set_option maxRecDepth 40000 in
theorem key_any (gb gc r:Nat) (s K:Nat→BitVec 8) (w:World) (hB:Blk w gb (fA 16 s) 169) (hne:gb≠gc) (hr:r<11)
  (hf:∀i,i<16→w.cell? ⟨gc,512+r*16+i,none⟩=some (.int .u8 (B8 (K i)))):
  Calls Tryz.prog 170 #[.pointer (some ⟨gc,0,none⟩),.pointer (some ⟨gb,0,none⟩),.int .i64 (r:Int)] w fun e w'=>
   e= .returned (.tuple #[])∧Blk w' gb (fA 16 (sx s K)) 169∧w.grownBy w' (some gb):=by
 have hgc:gc<w.heap.size:=World.block_lt_of_cell? w _ (hf 0 (by omega))
 have HF:=Lib.hid hf
 clear hf
 have hr':(r:Int)<11:=by omega
 go_enter Tryz.func170,Tryz.ntmps170
 go_wp2_with fail
 go_loopw [7] (fun i wr=>∃k:Nat,k≤16∧i= .int .i64 k∧Blk wr gb (fA 16 (fun j=>if j<k then s j^^^K j else s j)) 169∧w.grownBy wr (some gb)) (fun i _=>16-(intOf i).toNat)
 case atStart=>exact ⟨0,by omega,rfl,by simpa using hB,World.grownBy.refl _ _⟩
 case round=>
  obtain ⟨k,hk,rfl,hb,hg⟩:=hrel
  by_cases hlt:k<16
  ·have C1:∀W,Old wr.drew W→W.cell? ⟨gb,k,none⟩=some (.int .u8 (B8 (s k))):=fun W h=>(hb.drew.old h).atF hlt (by simp)
   have hgc2:gc<wr.heap.size:=Nat.lt_of_lt_of_le hgc hg.size
   have C2:∀W,Old wr.drew W→W.cell? ⟨gc,512+r*16+k,none⟩=some (.int .u8 (B8 (K k))):=fun W h=>by
    rw [h.cell (p:=⟨gc,512+r*16+k,none⟩) hgc2]
    exact (hg.cell (HF.out _ hlt) (by simpa using hne.symm))
   go_wp2_with fail
   refine wp_region_treeR true Old Old.refl Old.trans (.step 0 (.step 1 (.step 2 (.step 3 (.step 4 (.step 5 (.step 6 (.step 7 (.step 8 (.step 9 (.step 10 (.step 11 (.step 12 (.step 13 (.step 14 (.step 15 (.step 16 .done))))))))))))))))) (by kernel_rfl) (by kernel_rfl) (fun c a d v w h=>by cases d<;>exact h) ?_
   repeat (first|(refine tree_skip rfl (by rfl) ?_;simp only [Act.put,List.setIfInBounds_toArray,List.set])|(refine tree_quiet (v:= ?_) rfl rfl (by rfl) ?_ ?_;rotate_left;(intro W hW;go_simp);(try with_reducible rfl);simp only [Act.put,List.setIfInBounds_toArray,List.set]))
   have hbd:=hb.drew
   have r2:=hbd.rule
   have f2:=hbd.free
   have ck:=fA_at (fun j=>if j<k then s j^^^K j else s j) hlt
   refine tree_store rfl rfl (by rfl) (fun K hK=> ?_);go_wp2_with fail;refine tree_done ?_
   clear r2 f2
   go_wp2_with fail
   go_roundw
   case rel=>
    refine ⟨k+1,by omega,by go_num,?_,onlyA_setCell (onlyA_drew hg) k _⟩
    exact (hbd.setF hlt (s k^^^K k)).ofF fun i _=>congrFun (step_fun k (fun j=>s j^^^K j) s) i
   case measure=>simp [intOf];omega
  ·go_wp2_with fail
   go_end0
   obtain rfl:k=16:=by omega
   exact ⟨rfl,hb.ofF fun i h=>by rw [sx,tb_at _ h,if_pos h],hg⟩
set_option maxHeartbeats 400000 in
set_option maxRecDepth 40000 in
theorem turn_forth (gb:Nat) (s:Nat→BitVec 8) (w:World) (hB:Blk w gb (fA 16 s) 169):
  Calls Tryz.prog 174 #[.pointer (some ⟨gb,0,none⟩),.bool false] w fun e w'=>
   e= .returned (.tuple #[])∧Blk w' gb (fA 16 (trn s)) 169∧w.grownBy w' (some gb):=by
 have hz:=hB.lt
 go_enter Tryz.func174,Tryz.ntmps174
 go_wp2_with (first|refine wpList_load_blk rfl 169 agg16 _ rfl rfl hB (fA_size _ _) ?_|refine wpList_store_blk rfl 169 agg16 (.tmp 4) _ rfl rfl rfl (Blk.new _ _ _) (fA_size _ _) rfl (fA_one _ _) ?_)
 refine wp_forget (fun W0=>Blk W0 w.heap.size (fA 16 s) 169∧Blk W0 gb (fA 16 s) 169∧w.grownBy W0 (some gb)) ⟨(Blk.new _ _ _).setRow _,(hB.alloc _).setRow_other _ _ (by omega),onlyA_newRow (onlyA_alloc (World.grownBy.refl _ _) _) (Nat.le_refl _) _⟩ ?_
 rintro w0 ⟨hW,hB0,hg0⟩
 obtain ⟨H,hH⟩:∃H,H=w.heap.size:=⟨_,rfl⟩
 rw [←hH] at hW⊢
 have hHg:H≠gb:=by omega
 clear hB hz hH
 go_loopw [10] (fun i wr=>∃k:Nat,k≤16∧i= .int .i64 k∧Blk wr H (fA 16 s) 169∧Blk wr gb (fA 16 (fun j=>if j<k then s (frm j) else s j)) 169∧w.grownBy wr (some gb)) (fun i _=>16-(intOf i).toNat)
 case atStart=>exact ⟨0,by omega,rfl,hW,by simpa using hB0,hg0⟩
 case round=>
  clear hW hB0 hg0
  obtain ⟨k,hk,rfl,hW,hb,hg⟩:=hrel
  by_cases hlt:k<16
  ·have hfr:frm k<16:=(too_frm k hlt).2.2.1
   have hfi:=frm_int k
   have hfr':(frm k:Int)<16:=by omega
   have C1:∀W,Old wr.drew W→W.cell? ⟨H,frm k,none⟩=some (.int .u8 (B8 (s (frm k)))):=fun W h=>(hW.drew.old h).atF hfr rfl
   go_wp2_with fail
   refine wp_region_treeR true Old Old.refl Old.trans (.step 0 (.step 1 (.step 2 (.step 3 (.step 4 (.step 5 (.step 6 (.step 7 .done)))))))) (by kernel_rfl) (by kernel_rfl) (fun c a d v w h=>by cases d<;>exact h) ?_
   repeat (first|(refine tree_skip rfl (by rfl) ?_;simp only [Act.put,List.setIfInBounds_toArray,List.set])|(refine tree_quiet (v:= ?_) rfl rfl (by rfl) ?_ ?_;rotate_left;(intro W hW;go_simp);(try with_reducible rfl);simp only [Act.put,List.setIfInBounds_toArray,List.set]))
   have hbd:=hb.drew
   have r2:=hbd.rule
   have f2:=hbd.free
   have ck:=fA_at (fun j=>if j<k then s (frm j) else s j) hlt
   refine tree_store rfl rfl (by rfl) (fun K hK=> ?_);go_wp2_with fail;refine tree_done ?_
   clear r2 f2
   go_wp2_with fail
   go_roundw
   case rel=>
    refine ⟨k+1,by omega,by go_num,hW.drew.other _ _ hHg,?_,onlyA_setCell (onlyA_drew hg) k _⟩
    exact (hbd.setF hlt (s (frm k))).ofF fun i _=>congrFun (step_fun k (fun j=>s (frm j)) s) i
   case measure=>simp [intOf];omega
  ·go_wp2_with fail
   go_end0
   obtain rfl:k=16:=by omega
   exact ⟨rfl,hb.ofF fun i h=>by rw [trn,tb_at _ h,if_pos h],hg⟩
end
section
open Go.RowKit
attribute [local go_sem] bits_xor_B8 bits_and_B8 bits_or_B8 ofInt_B8
def MixRel (w:World) (gb H:Nat) (m s:Nat→BitVec 8) (f:Nat) (i:Value) (wr:World):Prop:=
 ∃k:Nat,f+k=16∧i= .int .i64 k∧Blk wr H (fA 4 m) 235∧Blk wr (H+1) (fA 16 s) 169∧Blk wr gb (fA 16 (fun j=>if j<k then mxs m s j 4 else s j)) 169∧w.grownBy wr (some gb)
def ColRel (w:World) (gb H k:Nat) (m s:Nat→BitVec 8) (f:Nat) (i:Value) (wr:World):Prop:=
 ∃q:Nat,f+q=4∧i= .int .i64 q∧Blk wr H (fA 4 m) 235∧Blk wr (H+1) (fA 16 s) 169∧Blk wr gb (fA 16 (fun j=>if j=k then mxs m s k q else if j<k then mxs m s j 4 else s j)) 169∧w.grownBy wr (some gb)
theorem len16:Tryz.prog.arrayLen 169=16:=by kernel_rfl
theorem elem16:Tryz.prog.elem 169=5:=by kernel_rfl
theorem cut16 (b c:Nat) (hc:c≤12) (W:World):(Instr.sliceAt 169 (.pointer (some ⟨b,0,none⟩)) (some (.int .i64 (c:Int))) (some (.int .i64 ((c:Int)+4))) none).run Tryz.prog W= .ok (.slice (some ⟨b,c,none⟩) 4 (16-c)) W:=by
 have ht:Tryz.prog.underlying 169=some (.array (Tryz.prog.arrayLen 169) (Tryz.prog.elem 169)):=by rw [len16,elem16];exact Tryz.underlying169
 have hs:(sizeOf 5).run Tryz.prog W= .ok 1 W:=by
  have:=u8InfoA
  cases hq:Tryz.prog.info? 5 with
  |none=>simp [hq] at this
  |some i=>simp [hq] at this;simp [sizeOf,typeInfo,hq,this]
 rw [run_sliceAt_array_lh W _ _ ht .i64 .i64 (c:Int) ((c:Int)+4) (by omega) (by omega) (by rw [len16];omega),elem16,hs,len16]
 have e1:((c:Int)+4).toNat-c=4:=by omega
 have e2:¬16=c:=by omega
 simp only [slicedAt,Result.andThen_ok,Int.toNat_natCast,e1,if_neg e2,Addr.add_mid,Nat.mul_one,Nat.zero_add]
theorem col_ix (q k d:Nat) (hq:q<4) (hk:k<16) (hd:d=(q+4-k%4)%4):(IntKind.i64.wrap (IntKind.i64.wrap ((q:Int)-(k:Int).tmod 4)+4)).tmod 4=(d:Int):=by
 rw [Int.tmod_eq_emod_of_nonneg (show (0:Int)≤(k:Int) by omega),IntWalk.i64_in ((q:Int)-(k:Int)%4) (by omega),IntWalk.i64_in _ (by omega),Int.tmod_eq_emod_of_nonneg (by omega)]
 omega
set_option maxHeartbeats 1000000 in
set_option maxRecDepth 40000 in
theorem mix_any (gb:Nat) (m s:Nat→BitVec 8) (w:World) (hB:Blk w gb (fA 16 s) 169):
  Calls Tryz.prog 176 #[.pointer (some ⟨gb,0,none⟩),.agg (fA 4 m)] w fun e w'=>
   e= .returned (.tuple #[])∧Blk w' gb (fA 16 (mx m s)) 169∧w.grownBy w' (some gb):=by
 have hz:=hB.lt
 have hA:=hB.alloc (.cells (fA 4 m) 235)
 go_enter Tryz.func176,Tryz.ntmps176
 go_wp2_with (first|refine wpList_load_blk rfl 169 agg16 _ rfl rfl hA (fA_size _ _) ?_|refine wpList_store_blk rfl 169 agg16 (.tmp 4) _ rfl rfl rfl (Blk.new2' _ _ _ _) (fA_size _ _) rfl (fA_one _ _) ?_)
 refine wp_forget (fun W0=>Blk W0 w.heap.size (fA 4 m) 235∧Blk W0 (w.heap.size+1) (fA 16 s) 169∧Blk W0 gb (fA 16 s) 169∧w.grownBy W0 (some gb)) ⟨(Blk.new2 _ _ _ _).setRow_other _ _ (by omega),(Blk.new2' _ _ _ _).setRow _,(hA.alloc _).setRow_other _ _ (by omega),onlyA_newRow (onlyA_alloc (onlyA_alloc (World.grownBy.refl _ _) _) _) (by omega) _⟩ ?_
 rintro w0 ⟨hM,hW,hB0,hg0⟩
 obtain ⟨H,hH⟩:∃H,H=w.heap.size:=⟨_,rfl⟩
 rw [←hH] at hW hM⊢
 have hHg:H≠gb:=by omega
 have hHg1:H+1≠gb:=by omega
 clear hB hz hH hA
 go_loopg [11] 16 (MixRel w gb H m s)
 case atStart=>exact ⟨0,by omega,rfl,hM,hW,by simpa using hB0,hg0⟩
 case round=>
  clear hW hB0 hg0 hM
  obtain ⟨k,hk,rfl,hM,hW,hb,hg⟩:=hrel
  by_cases hlt:k<16
  ·have tk:decide ((k:Int)<16)=true:=by simp;omega
   have r2:=hb.rule
   have f2:=hb.free
   have ck:=fA_at (fun j=>if j<k then mxs m s j 4 else s j) hlt
   obtain ⟨c,hc⟩:∃c,c=k/4*4:=⟨_,rfl⟩
   have hci:(k:Int)/4*4=(c:Int):=by omega
   have hc12:c≤12:=by omega
   have hc12':(c:Int)+4≤16:=by omega
   have HC:=Lib.hid hc
   clear hc
   have hcut:=cut16 (H+1) c hc12
   go_wp2_with fail
   clear r2 f2
   obtain ⟨g0,rfl⟩:∃g:Nat,g=gk:=⟨_,rfl⟩
   go_loopg [27] 4 (ColRel w gb H k m s)
   case atStart=>exact ⟨0,by omega,rfl,hM.other _ _ hHg,hW.other _ _ hHg1,hb.setF hlt 0#8,onlyA_setCell hg k _⟩
   case round=>
    clear hM hW hb hg
    obtain ⟨q,hq,rfl,hM,hW,hb,hg⟩:=hrel
    by_cases hq4:q<4
    ·obtain ⟨d,hd⟩:∃d,d=(q+4-k%4)%4:=⟨_,rfl⟩
     have hdi:=col_ix q k d hq4 hlt hd
     have hd4:d<4:=by omega
     have hd4':(d:Int)<4:=by omega
     have c1:=hW.atF (show c+q<16 by omega) rfl
     have HD:=Lib.hid hd
     have HQ:=Lib.hid hq
     clear hd hq
     go_wp2_with fail
     have C1:∀W,Old wr.drew W→W.cell? ⟨gb,k,none⟩=some (.int .u8 (B8 (mxs m s k q))):=fun W h=>(hb.drew.old h).atF hlt (by simp)
     have C2:∀W,Old wr.drew W→W.cell? ⟨H,d,none⟩=some (.int .u8 (B8 (m d))):=fun W h=>(hM.drew.old h).atF hd4 rfl
     clear c1
     have hkI:(k:Int)<16:=by omega
     refine wp_region_treeR true Old Old.refl Old.trans (.step 0 (.step 1 (.step 2 (.step 3 (.step 4 (.step 5 (.step 6 (.step 7 (.step 8 (.step 9 (.step 10 (.step 11 (.step 12 (.step 13 (.step 16 (.step 14 (.step 15 (.step 17 (.step 18 .done))))))))))))))))))) (by kernel_rfl) (by kernel_rfl) (fun c a d v w h=>by cases d<;>exact h) ?_
     repeat (first|(refine tree_skip rfl (by rfl) ?_;simp only [Act.put,List.setIfInBounds_toArray,List.set])|(refine tree_quiet (v:= ?_) rfl rfl (by rfl) ?_ ?_;rotate_left;(intro W hW;go_simp);(try with_reducible rfl);simp only [Act.put,List.setIfInBounds_toArray,List.set]))
     refine tree_loud rfl rfl (by rfl) (fun K hK=> ?_);go_wp2_with fail
     refine (times_any (m d) (s (c+q)) _).mono ?_
     rintro e w' ⟨rfl,rfl⟩
     go_wp2_with fail
     refine hK _ _ (Old.refl _) ?_
     clear hK K
     repeat (first|(refine tree_skip rfl (by rfl) ?_;simp only [Act.put,List.setIfInBounds_toArray,List.set])|(refine tree_quiet (v:= ?_) rfl rfl (by rfl) ?_ ?_;rotate_left;(intro W hW;go_simp);(try with_reducible rfl);simp only [Act.put,List.setIfInBounds_toArray,List.set]))
     have hbd:=hb.drew
     have r3:=hbd.rule
     have f3:=hbd.free
     have ck3:=fA_at (fun j=>if j=k then mxs m s k q else if j<k then mxs m s j 4 else s j) hlt
     refine tree_store rfl rfl (by rfl) (fun K hK=> ?_);go_wp2_with fail;refine tree_done ?_
     clear r3 f3 ck3
     go_wp2_with fail
     go_roundg (gk-1)
     case rel=>
      have hd:=HD.out
      have hq:=HQ.out
      refine ⟨q+1,by omega,by go_num,hM.drew.other _ _ hHg,hW.drew.other _ _ hHg1,?_,onlyA_setCell (onlyA_drew hg) k _⟩
      refine (hbd.setF hlt (mxs m s k q^^^tim (m d) (s (c+q)))).ofF fun i _=> ?_
      by_cases e:i=k
      ·rw [if_pos e,if_pos e,mxs,←hd,←HC.out]
      ·rw [if_neg e,if_neg e,if_neg e]
     case measure=>have hq:=HQ.out;omega
    ·obtain rfl:q=4:=by omega
     go_wp2_with fail
     go_roundg (g0-1)
     case rel=>exact ⟨k+1,by omega,by go_num,hM,hW,hb.ofF fun i _=>congrFun (step_fun k (fun j=>mxs m s j 4) s) i,hg⟩
     case measure=>omega
  ·go_wp2_with fail
   go_end0
   obtain rfl:k=16:=by omega
   exact ⟨rfl,hb.ofF fun i h=>by rw [mx,tb_at _ h,if_pos h],hg⟩
end
end Go.Proofs.YtioigihakjlopaaGreat

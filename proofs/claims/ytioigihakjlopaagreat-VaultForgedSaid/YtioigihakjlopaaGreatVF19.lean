import Derived.Test.YtioigihakjlopaaGreatVF02
namespace Go.Proofs.YtioigihakjlopaaGreat
open Go.Proofs.Tryz
set_option linter.unusedVariables false
set_option linter.unusedSimpArgs false
set_option maxHeartbeats 16000000
set_option maxRecDepth 100000
section
open Go.RowKit
def xt (x:BitVec 8):BitVec 8:=(x<<<1)^^^((x>>>7)*27#8)
def xts:Nat->BitVec 8->BitVec 8
 |0,x=>x
 |k+1,x=>xt (xts k x)
def qC (x y:BitVec 8):Nat->BitVec 8
 |0=>0#8
 |k+1=>qC x y k^^^(if y.getLsbD k then xts k x else 0#8)
def tim (x y:BitVec 8):BitVec 8:=qC x y 8
theorem AE:∀x:BitVec 8,xt x=(x<<<1)^^^(if x.getLsbD 7 then 27#8 else 0#8):=by decide+kernel
theorem rV (a b c d:BitVec 8):(a^^^b)^^^(c^^^d)=(a^^^c)^^^(b^^^d):=by
 rw [XM,XM,<-XM b c d,BitVec.xor_comm b c,XM c b d]
theorem Gp (p q:Bool) (c:BitVec 8):(if (p^^q) then c else 0#8)=(if p then c else 0#8)^^^(if q then c else 0#8):=by
 cases p<;>cases q<;>simp
theorem IT (p:Bool) (c d:BitVec 8):(if p then c^^^d else 0#8)=(if p then c else 0#8)^^^(if p then d else 0#8):=by
 cases p<;>simp
theorem Kg (a b:BitVec 8):xt (a^^^b)=xt a^^^xt b:=by
 rw [AE,AE,AE,BitVec.getLsbD_xor,Gp,BitVec.shiftLeft_xor_distrib,rV]
theorem AD (a b:BitVec 8):∀k,xts k (a^^^b)=xts k a^^^xts k b
 |0=>rfl
 |k+1=>by rw [xts,AD a b k,Kg];rfl
theorem xC (x y z:BitVec 8):∀k,qC x (y^^^z) k=qC x y k^^^qC x z k
 |0=>by simp [qC]
 |k+1=>by rw [qC,xC x y z k,BitVec.getLsbD_xor,Gp,rV];rfl
theorem lY (x y z:BitVec 8):∀k,qC (x^^^y) z k=qC x z k^^^qC y z k
 |0=>by simp [qC]
 |k+1=>by rw [qC,lY x y z k,AD,IT,rV];rfl
theorem mS (x y z:BitVec 8):tim x (y^^^z)=tim x y^^^tim x z:=xC x y z 8
theorem fO (x y z:BitVec 8):tim (x^^^y) z=tim x z^^^tim y z:=lY x y z 8
def kj (x:BitVec 8) (k:Nat):BitVec 8:=if x.getLsbD k then 1#8<<<k else 0#8
theorem Im:∀x:BitVec 8,kj x 0^^^kj x 1^^^kj x 2^^^kj x 3^^^kj x 4^^^kj x 5^^^kj x 6^^^kj x 7=x:=by decide+kernel
theorem qu {f:BitVec 8->BitVec 8} (hf:∀a b,f (a^^^b)=f a^^^f b):f 0#8=0#8:=by
 have h:=hf 0#8 0#8;have e:(0#8^^^0#8)=0#8:=rfl;rw [e] at h;have:=WG (·^^^f 0#8) h;simpa [XM] using this.symm
theorem pp {f g:BitVec 8->BitVec 8} (hf:∀a b,f (a^^^b)=f a^^^f b) (hg:∀a b,g (a^^^b)=g a^^^g b) (h:∀k,k<8->f (1#8<<<k)=g (1#8<<<k)) (x:BitVec 8):f x=g x:=by
 have s:∀k,k<8->f (kj x k)=g (kj x k):=fun k hk=>by
  unfold kj;split
  .exact h k hk
  .rw [qu hf,qu hg]
 rw [<-Im x];simp only [hf,hg,s 0 oA,s 1 oA,s 2 oA,s 3 oA,s 4 oA,s 5 oA,s 6 oA,s 7 oA]
theorem si:∀i,i<8->∀j,j<8->tim (1#8<<<i) (1#8<<<j)=tim (1#8<<<j) (1#8<<<i):=by decide+kernel
theorem qI:∀i,i<8->∀j,j<8->∀k,k<8->tim (tim (1#8<<<i) (1#8<<<j)) (1#8<<<k)=tim (1#8<<<i) (tim (1#8<<<j) (1#8<<<k)):=by decide+kernel
theorem xE (x y:BitVec 8):tim x y=tim y x:=by
 refine pp (f:=fun x=>tim x y) (g:=fun x=>tim y x) (fun a b=>fO a b y) (fun a b=>mS y a b) (fun i hi=> ?_) x;exact pp (f:=fun y=>tim (1#8<<<i) y) (g:=fun y=>tim y (1#8<<<i)) (fun a b=>mS _ a b) (fun a b=>fO a b _) (fun j hj=>si i hi j hj) y
theorem AV (x y z:BitVec 8):tim (tim x y) z=tim x (tim y z):=by
 refine pp (f:=fun x=>tim (tim x y) z) (g:=fun x=>tim x (tim y z)) (fun a b=>by simp only [fO]) (fun a b=>by simp only [fO]) (fun i hi=> ?_) x;refine pp (f:=fun y=>tim (tim (1#8<<<i) y) z) (g:=fun y=>tim (1#8<<<i) (tim y z)) (fun a b=>by simp only [mS,fO]) (fun a b=>by simp only [mS,fO]) (fun j hj=> ?_) y;exact pp (f:=fun z=>tim (tim (1#8<<<i) (1#8<<<j)) z) (g:=fun z=>tim (1#8<<<i) (tim (1#8<<<j) z)) (fun a b=>by simp only [mS]) (fun a b=>by simp only [mS]) (fun k hk=>qI i hi j hj k hk) z
theorem AU:∀x:BitVec 8,tim x 1#8=x:=by decide+kernel
theorem DM:∀x:BitVec 8,tim 0#8 x=0#8:=by decide+kernel
theorem xD (x y:BitVec 8) (k:Nat) (h:y>>>k=0#8):∀n,qC x y (k+n)=qC x y k
 |0=>rfl
 |n+1=>by
  have e:y.getLsbD (k+n)=false:=by
   have:=WG (fun b=>b.getLsbD n) h;simpa using this
  rw [<-WP,qC,xD x y k h n,e];simp
def pw (x:BitVec 8):BitVec 8:=
 let f:=fun y=>tim (tim y y) x
 let y:=f (f (f (f (f (f x)))))
 tim y y
def pws:Nat->BitVec 8->BitVec 8
 |0,x=>x
 |k+1,x=>tim (tim (pws k x) (pws k x)) x
theorem KJ:∀x:BitVec 8,x≠0#8->tim x (pw x)=1#8:=by decide+kernel
theorem Ig:pw 0#8=0#8:=by decide+kernel
theorem IQ {x y z:BitVec 8} (h1:tim x y=1#8) (h2:tim x z=1#8):y=z:=by
 have h:tim y (tim x z)=tim (tim y x) z:=(AV y x z).symm;rw [h2,AU,xE y x,h1,xE,AU] at h;exact h
def Ej (y:BitVec 8) (k:Nat):BitVec 8:=(y<<<(k%8))|||(y>>>(8-k%8))
def bxs (y:BitVec 8):Nat->BitVec 8
 |0=>99#8
 |k+1=>bxs y k^^^Ej y k
def bx (x:BitVec 8):BitVec 8:=bxs (pw x) 5
def qT (y:BitVec 8) (i:Nat):BitVec 8:=y>>>i^^^y>>>((i+4)%8)^^^y>>>((i+5)%8)^^^y>>>((i+6)%8)^^^y>>>((i+7)%8)^^^99#8>>>i
def bxr (y:BitVec 8):Nat->BitVec 8
 |0=>0#8
 |k+1=>bxr y k|||((qT y k&&&1#8)<<<k)
theorem Jv:∀y:BitVec 8,bxr y 8=bxs y 5:=by decide+kernel
open Go.RowKit
def tb (n:Nat) (f:Nat->BitVec 8):Nat->BitVec 8:=fun j=>if j<n then f j else 0#8
def lst (l:List (BitVec 8)):Nat->BitVec 8:=fun j=>l.getD j 0#8
theorem nT {n j:Nat} (f:Nat->BitVec 8) (h:j<n):tb n f j=f j:=if_pos h
theorem Ov {n:Nat} {f g:Nat->BitVec 8} (h:∀j,j<n->f j=g j):tb n f=tb n g:=by
 funext j;unfold tb;split
 .exact h j ‹_›
 .rfl
theorem aK {n:Nat} {f:Nat->BitVec 8} {l:List (BitVec 8)} (hl:l.length=n) (h:∀j,j<n->f j=l.getD j 0#8):tb n f=lst l:=by
 funext j;unfold tb lst;split
 .exact h j ‹_›
 .rw [VX,WL oA];rfl
def sx (a b:Nat->BitVec 8):Nat->BitVec 8:=tb 16 fun j=>a j^^^b j
def thr (f:BitVec 8->BitVec 8) (s:Nat->BitVec 8):Nat->BitVec 8:=tb 16 fun j=>f (s j)
def frm (i:Nat):Nat:=(i+4*(i%4))%16
def too (j:Nat):Nat:=(j+12*(j%4))%16
theorem vF:∀i,i<16->too (frm i)=i/\frm (too i)=i/\frm i<16/\too i<16:=dcA
def trn (s:Nat->BitVec 8):Nat->BitVec 8:=tb 16 fun j=>s (frm j)
def mxs (m s:Nat->BitVec 8) (i:Nat):Nat->BitVec 8
 |0=>0#8
 |k+1=>mxs m s i k^^^tim (m ((k+4-i%4)%4)) (s (i/4*4+k))
def mx (m s:Nat->BitVec 8):Nat->BitVec 8:=tb 16 fun i=>mxs m s i 4
def nk0 (r:BitVec 8) (w:Nat->BitVec 8) (c:Nat):BitVec 8:=bx (w (12+(c+1)%4))^^^(if c=0 then r else 0#8)
def nkc (r:BitVec 8) (w:Nat->BitVec 8) (c:Nat):Nat->BitVec 8
 |0=>nk0 r w c^^^w c
 |q+1=>nkc r w c q^^^w (4*(q+1)+c)
def nk (r:BitVec 8) (w:Nat->BitVec 8):Nat->BitVec 8:=tb 16 fun j=>nkc r w (j%4) (j/4)
def rc:Nat->BitVec 8
 |0=>1#8
 |k+1=>tim (rc k) 2#8
def rk (key:Nat->BitVec 8):Nat->Nat->BitVec 8
 |0=>tb 16 key
 |k+1=>nk (rc k) (rk key k)
def mE:Nat->BitVec 8:=lst [2#8,3#8,1#8,1#8]
def rnd (key:Nat->BitVec 8) (r:Nat) (s:Nat->BitVec 8):Nat->BitVec 8:=
 sx (if r<10 then mx mE (trn (thr bx s)) else trn (thr bx s)) (rk key r)
def bg (key s:Nat->BitVec 8):Nat->Nat->BitVec 8
 |0=>sx s (rk key 0)
 |r+1=>rnd key (r+1) (bg key s r)
def enc (key s:Nat->BitVec 8):Nat->BitVec 8:=bg key s 10
def ibx (z:BitVec 8):BitVec 8:=Ej z 1^^^Ej z 3^^^Ej z 6^^^5#8
theorem IU:∀y:BitVec 8,ibx (bxs y 5)=y:=by decide+kernel
theorem Ju:∀y:BitVec 8,bxs (ibx y) 5=y:=by decide+kernel
theorem KI:∀x:BitVec 8,pw (pw x)=x:=by decide+kernel
def un (z:BitVec 8):BitVec 8:=pw (ibx z)
theorem Oq (x:BitVec 8):un (bx x)=x:=by rw [un,bx,IU,KI]
theorem OT (x:BitVec 8):bx (un x)=x:=by rw [un,bx,KI,Ju]
open Go.RowKit
def B8 (a:BitVec 8):Int:=a.toNat
theorem jV (a:BitVec 8):0<=B8 a:=by simp [B8]
theorem vt (a:BitVec 8):B8 a<=255:=by have:=a.isLt;simp only [B8];omega
theorem MG {a b:BitVec 8}:B8 a=B8 b↔a=b:=by
 simp only [B8];constructor
 .intro h;exact Wd (by exact_mod_cast h)
 .rintro rfl;rfl
theorem GW (a b:BitVec 8):(B8 a==B8 b)=(a==b):=by
 rw [Wj];simp [MG]
theorem bN (a:BitVec 8):BitVec.ofInt 8 (B8 a)=a:=by simp [B8]
theorem vx (a:BitVec 8):IntKind.u8.wrap (a.toNat:Int)=B8 a:=by
 rw [IntWalk.u8_in];rfl;have:=a.isLt;omega
theorem dn (x y:Int):bits .xor .u8 x y=B8 (BitVec.ofInt 8 x^^^BitVec.ofInt 8 y):=vx _
theorem dp (x y:Int):bits .and .u8 x y=B8 (BitVec.ofInt 8 x&&&BitVec.ofInt 8 y):=vx _
theorem dL (x y:Int):bits .or .u8 x y=B8 (BitVec.ofInt 8 x|||BitVec.ofInt 8 y):=vx _
theorem jw (a:BitVec 8) (k:Nat):B8 a/(2:Int)^k=B8 (a>>>k):=by
 simp only [B8,BitVec.toNat_ushiftRight,XK];norm_cast
theorem xp (a:BitVec 8):B8 a/(2:Int)=B8 (a>>>1):=jw a 1
theorem JT (a:BitVec 8):B8 a/(128:Int)=B8 (a>>>7):=jw a 7
theorem mJ (a:BitVec 8) (k:Nat):B8 a*(2:Int)^k%(256:Int)=B8 (a<<<k):=by
 simp only [B8,BitVec.toNat_shiftLeft,Nat.shiftLeft_eq];simp
theorem xq (a:BitVec 8):B8 a*(2:Int)%(256:Int)=B8 (a<<<1):=mJ a 1
attribute [local go_sem] dn dp dL bN
theorem IC:∀z:BitVec 8,(B8 (z&&&1#8)==1)=z.getLsbD 0:=by decide+kernel
theorem GD (y:BitVec 8) (k:Nat):(B8 (y>>>k&&&1#8)==1)=y.getLsbD k:=by
 rw [IC];simp
theorem Cx (z:BitVec 8):(B8 z/2==0)=(z>>>1==0#8):=by rw [xp];exact GW (z>>>1) 0#8
theorem qFS (x:BitVec 8):BitVec.ofInt 8 (B8 x*2%256)^^^BitVec.ofInt 8 (B8 x/128*27)=xt x:=by
 rw [JT,xq,bN,show BitVec.ofInt 8 (B8 (x>>>7)*27)=(x>>>7)*27#8 from by
  have:B8 (x>>>7)*(27:Int)=((((x>>>7).toNat*27:Nat)):Int):=(by simp [B8]);rw [this,XT];apply Wd;simp [BitVec.toNat_mul]];rfl
theorem DX:∀y:BitVec 8,y>>>7>>>1=0#8:=by decide+kernel
def FI (w:World) (x y:BitVec 8) (f:Nat) (x' y' p':Value) (w':World):Prop:=
 ∃k,f+k=7/\p'= .int .u8 (B8 (qC x y k))/\x'= .int .u8 (B8 (xts k x))/\y'= .int .u8 (B8 (y>>>k))/\w=w'
theorem lZ (x y:BitVec 8) (w:World):
  Calls prog 169 #[.int .u8 (B8 x),.int .u8 (B8 y)] w fun e w'=>e= .returned (.int .u8 (B8 (tim x y)))/\w=w':=by
 go_enter func169,ntmps169;go_wp2_with fail;go_step3;go_wp2_with fail;go_step3;go_wp2_with fail;go_loopg [0,1,5] 7 (FI w x y)
 case atStart=>exact ⟨0,oA,rfl,rfl,rfl,rfl⟩
 case round=>
  obtain ⟨k,hk,rfl,rfl,rfl,rfl⟩:=hrel;have t1:=GD y k;have t2:=Cx (y>>>k);have b0:=jV (y>>>k);have b1:=vt (y>>>k);have b2:=jV (xts k x);have b3:=vt (xts k x);have P0:∀q:Bool,y.getLsbD k=q->qC x y (k+1)=qC x y k^^^(if q then xts k x else 0#8):=fun q h=>(by rw [<-h];rfl);have P:=Hd P0;clear P0;by_cases hz:y>>>k>>>1=0#8
  .have hz':(y>>>k>>>1==0#8)=true:=(by simpa using hz);rw [hz'] at t2;have E0:qC x y (k+1)=tim x y:=by
    have hz'':y>>>(k+1)=0#8:=(by rw [<-hz,BitVec.shiftRight_add]);have:=xD x y (k+1) hz'' (7-k);rw [show k+1+(7-k)=8 by omega] at this;exact this.symm
   have EE:=Hd E0;clear E0 hz hz';cases hb:y.getLsbD k with
   |true=>
    rw [hb] at t1;have HB:=Hd hb;clear hb;go_wp2_with fail
    (try rw [WA]);go_ret;refine ⟨?_,rfl⟩;rw [<-EE.out,P.out true HB.out];rfl
   |false=>
    rw [hb] at t1;have HB:=Hd hb;clear hb;go_wp2_with fail
    (try rw [WA]);go_ret;refine ⟨?_,rfl⟩;rw [<-EE.out,P.out false HB.out];simp
  .have hz':(y>>>k>>>1==0#8)=false:=(by simpa using hz);rw [hz'] at t2;have hk7:k<7:=by
    rcases Nat.lt_or_ge k 7 with h|h
    .exact h
    .exact absurd (by rw [show k=7 by omega];exact DX y) hz
   clear hz hz';have hgk:gk-1+(k+1)=7/\gk-1<gk:=oA;have HK:=Hd hgk;clear hgk hk;cases hb:y.getLsbD k with
   |true=>
    rw [hb] at t1;have HB:=Hd hb;clear hb;go_wp2_with fail;go_roundg (gk-1)
    case rel=>
     refine ⟨k+1,HK.out.1,?_,?_,?_,rfl⟩
     .rw [P.out true HB.out];rfl
     .rw [qFS];rfl
     .rw [xp,BitVec.shiftRight_add]
    case measure=>exact HK.out.2
   |false=>
    rw [hb] at t1;have HB:=Hd hb;clear hb;go_wp2_with fail;go_roundg (gk-1)
    case rel=>
     refine ⟨k+1,HK.out.1,?_,?_,?_,rfl⟩
     .rw [P.out false HB.out];simp
     .rw [qFS];rfl
     .rw [xp,BitVec.shiftRight_add]
    case measure=>exact HK.out.2
theorem OB (y:BitVec 8):y|||BitVec.ofInt 8 (B8 y/256)=Ej y 0:=by
 have h:B8 y/(2:Int)^8=B8 (y>>>8):=jw y 8;rw [show (256:Int)=(2:Int)^8 from rfl,h,bN];simp [Ej]
theorem sB (y:BitVec 8) (k:Nat) (p q:Int) (hp:p=(2:Int)^k) (hq:q=(2:Int)^(8-k)) (hk:k<8):BitVec.ofInt 8 (B8 y*p%256)|||BitVec.ofInt 8 (B8 y/q)=Ej y k:=by
 have h:B8 y/(2:Int)^(8-k)=B8 (y>>>(8-k)):=jw y (8-k);have h2:B8 y*(2:Int)^k%(256:Int)=B8 (y<<<k):=mJ y k;rw [hp,hq,h,h2,bN,bN,Ej,Wh hk]
theorem Ei (y:BitVec 8) (k:Nat) (hk:k<5) (w:World):
  Calls prog 189 #[.int .u8 (B8 y),.int .i64 (k:Int)] w fun e w'=>e= .returned (.int .u8 (B8 (Ej y k)))/\w=w':=by
 have b0:=jV y;have b1:=vt y;have t0:bits .and .u64 0 7=0:=dcA;have t1:bits .and .u64 1 7=1:=dcA;have t2:bits .and .u64 2 7=2:=dcA;have t3:bits .and .u64 3 7=3:=dcA;have t4:bits .and .u64 4 7=4:=dcA;have hcs:k=0\/k=1\/k=2\/k=3\/k=4:=oA;rcases hcs with rfl|rfl|rfl|rfl|rfl
 all_goals
  go_enter func189,ntmps189
  go_wp2_with fail
  go_ret
 .exact ⟨by rw [<-OB y];rfl,rfl⟩
 .exact ⟨by rw [<-sB y 1 2 128 rfl rfl oA];rfl,rfl⟩
 .exact ⟨by rw [<-sB y 2 4 64 rfl rfl oA];rfl,rfl⟩
 .exact ⟨by rw [<-sB y 3 8 32 rfl rfl oA];rfl,rfl⟩
 .exact ⟨by rw [<-sB y 4 16 16 rfl rfl oA];rfl,rfl⟩
theorem IS:(Tryz.prog.info? 3).map (·.size)=some 1:=by kernel_rfl
theorem Jg (k:Nat) (h:k<5):(#[Value.int .i64 0,.int .i64 1,.int .i64 2,.int .i64 3,.int .i64 4])[k]? =some (.int .i64 (k:Int)):=by
 have hcs:k=0\/k=1\/k=2\/k=3\/k=4:=oA;rcases hcs with rfl|rfl|rfl|rfl|rfl<;>rfl
theorem Jy (x:BitVec 8) (w:World):
  Calls prog 168 #[.int .u8 (B8 x)] w fun e w'=>e= .returned (.int .u8 (B8 (bx x)))/\w=w':=by
 go_enter func168,ntmps168;go_wp2_with fail;go_loop [3,8] (fun y i=>∃k:Nat,k<=6/\i= .int .i64 k/\y= .int .u8 (B8 (pws k x))) (fun _ i=>6-(intOf i).toNat)
 case atStart=>exact ⟨0,oA,rfl,rfl⟩
 case round=>
  obtain ⟨k,hk,rfl,rfl⟩:=hrel;by_cases hlt:k<6
  .go_wp2_with (go_at_call 169;refine (lZ _ _ _).mono ?_;rintro e w' ⟨rfl,rfl⟩);go_round
   case rel=>exact ⟨k+1,oA,gnA,rfl⟩
   case measure=>simp [intOf];omega
  .obtain rfl:k=6:=oA;go_wp2_with (go_at_call 169;refine (lZ _ _ _).mono ?_;rintro e w' ⟨rfl,rfl⟩);go_loop [4,20] (fun o i=>∃k:Nat,k<=5/\i= .int .i64 k/\o= .int .u8 (B8 (bxs (pw x) k))) (fun _ i=>5-(intOf i).toNat)
   case atStart=>exact ⟨0,oA,rfl,rfl⟩
   case round=>
    obtain ⟨k,hk,rfl,rfl⟩:=hrel;by_cases hlt:k<5
    .have hi:∀W,(Instr.index 261 (.agg #[.int .i64 0,.int .i64 1,.int .i64 2,.int .i64 3,.int .i64 4]) (.int .i64 (k:Int))).run prog W= .ok (.int .i64 (k:Int)) W:=fun W=>
      en underlying261 underlying3 rfl IS W _ k _ (Jg k hlt) hlt
     go_wp2_with (go_at_call 189;refine (Ei _ _ hlt _).mono ?_;rintro e w' ⟨rfl,rfl⟩);go_round
     case rel=>exact ⟨k+1,oA,gnA,rfl⟩
     case measure=>simp [intOf];omega
    .go_wp2_with fail;go_ret;obtain rfl:k=5:=oA;exact ⟨rfl,rfl⟩
def Ds (w:World) (x y:BitVec 8) (f:Nat) (o i:Value) (w':World):Prop:=
 ∃k,f+k=8/\o= .int .u8 (B8 (qC x y k))/\i= .int .i64 (k:Int)/\w=w'
def Dt (w:World) (x:BitVec 8) (n:Nat) (f:Nat) (z i:Value) (w':World):Prop:=
 ∃j,f+j=n/\z= .int .u8 (B8 (xts j x))/\i= .int .i64 (j:Int)/\w=w'
theorem LU (y:BitVec 8) (k:Nat):(B8 (BitVec.ofInt 8 (B8 y/(2:Int)^k)&&&1#8)==1)=y.getLsbD k:=by
 rw [jw,bN,GD]
theorem KD:∀z:BitVec 8,(B8 z/128==1)=z.getLsbD 7:=by decide+kernel
theorem Kh (z:BitVec 8) (h:z.getLsbD 7=true):BitVec.ofInt 8 (B8 z*2%256)^^^27#8=xt z:=by
 rw [xq,bN,AE,h];rfl
theorem Ki (z:BitVec 8) (h:z.getLsbD 7=false):z<<<1=xt z:=by
 rw [AE,h];simp
theorem rf (x y:BitVec 8) (w:World):
  Calls prog 203 #[.int .u8 (B8 x),.int .u8 (B8 y)] w fun e w'=>e= .returned (.int .u8 (B8 (tim x y)))/\w=w':=by
 have y0:=jV y;have y1:=vt y;go_enter func203,ntmps203;go_wp2_with fail;go_loopg [5,6] 8 (Ds w x y)
 case atStart=>exact ⟨0,oA,rfl,rfl,rfl⟩
 case round=>
  obtain ⟨k,hk,rfl,rfl,rfl⟩:=hrel;by_cases hlt:k<8
  .have t1:=LU y k;have P0:∀q:Bool,y.getLsbD k=q->qC x y (k+1)=qC x y k^^^(if q then xts k x else 0#8):=fun q h=>(by rw [<-h];rfl);have P:=Hd P0;clear P0;cases hb:y.getLsbD k with
   |true=>
    rw [hb] at t1;have HB:=Hd hb;clear hb;go_wp2_with fail;obtain ⟨g0,rfl⟩:∃g:Nat,g=gk:=⟨_,rfl⟩;go_loopg [7,8] k (Dt w x k)
    case atStart=>exact ⟨0,oA,rfl,rfl,rfl⟩
    case round=>
     obtain ⟨j,hj,rfl,rfl,rfl⟩:=hrel;have b2:=jV (xts j x);have b3:=vt (xts j x);by_cases hjk:j<k
     .have t2:=KD (xts j x);cases hc:(xts j x).getLsbD 7 with
      |true=>
       rw [hc] at t2;have HC:=Hd (Kh _ hc);clear hc;go_wp2_with fail;go_roundg (gk-1)
       case rel=>exact ⟨j+1,oA,by rw [HC.out];rfl,gnA,rfl⟩
       case measure=>omega
      |false=>
       rw [hc] at t2;have HC:=Hd (Ki _ hc);clear hc;go_wp2_with fail;go_roundg (gk-1)
       case rel=>exact ⟨j+1,oA,by rw [xq,HC.out];rfl,gnA,rfl⟩
       case measure=>omega
     .obtain rfl:j=k:=oA;go_wp2_with fail;go_roundg (g0-1)
      case rel=>exact ⟨j+1,oA,by rw [P.out true HB.out];rfl,gnA,rfl⟩
      case measure=>omega
   |false=>
    rw [hb] at t1;have HB:=Hd hb;clear hb;go_wp2_with fail;go_roundg (gk-1)
    case rel=>exact ⟨k+1,oA,by rw [P.out false HB.out];simp,gnA,rfl⟩
    case measure=>omega
  .go_wp2_with fail;go_ret;obtain rfl:k=8:=oA;exact ⟨rfl,rfl⟩
def My (w:World) (x:BitVec 8) (f:Nat) (i:Value) (w':World):Prop:=
 ∃k,f+k=256/\1<=k/\i= .int .i64 (k:Int)/\(∀j,1<=j->j<k->tim x (BitVec.ofNat 8 j)≠1#8)/\w=w'
theorem KT (z:BitVec 8):(B8 z==1)=(z==1#8):=GW z 1#8
theorem oJ (k:Nat) (h:k<256):(k:Int)=B8 (BitVec.ofNat 8 k):=by
 simp only [B8,We];omega
theorem pC (x y:BitVec 8) (n:Int) (h:n=B8 y) (w:World):
  Calls prog 203 #[.int .u8 (B8 x),.int .u8 n] w fun e w'=>e= .returned (.int .u8 (B8 (tim x y)))/\w=w':=by
 subst h;exact rf x y w
theorem Cr {x:BitVec 8} {k:Nat} (h:tim x (BitVec.ofNat 8 k)=1#8):BitVec.ofNat 8 k=pw x:=by
 by_cases hx:x=0#8
 .subst hx;rw [DM] at h;exact absurd h dcA
 .exact IQ h (KJ x hx)
theorem EW {x:BitVec 8} (h:∀j,1<=j->j<256->tim x (BitVec.ofNat 8 j)≠1#8):pw x=0#8:=by
 by_cases hx:x=0#8
 .subst hx;exact Ig
 .have h1:=KJ x hx;have hl:=(pw x).isLt;by_cases h0:(pw x).toNat=0
  .have:pw x=0#8:=Wd h0;exact this
  .exact absurd (by rw [BitVec.ofNat_toNat,BitVec.setWidth_eq];exact h1) (h (pw x).toNat oA oA)
theorem wK (x:BitVec 8) (w:World):
  Calls prog 202 #[.int .u8 (B8 x)] w fun e w'=>e= .returned (.int .u8 (B8 (pw x)))/\w=w':=by
 go_enter func202,ntmps202;go_wp2_with fail;go_loopg [3] 255 (My w x)
 case atStart=>exact ⟨1,oA,oA,rfl,fun j h1 h2=>by omega,rfl⟩
 case round=>
  obtain ⟨k,hk,hk1,rfl,hno,rfl⟩:=hrel;have HN:=Hd hno;clear hno;by_cases hlt:k<256
  .have E0:=Hd (oJ k hlt);by_cases hf:tim x (BitVec.ofNat 8 k)=1#8
   .have t:(B8 (tim x (BitVec.ofNat 8 k))==1)=true:=(by rw [hf];rfl);have HF:=Hd hf;clear hf;go_wp2_with (go_at_call 203;refine (pC _ _ _ E0.out _).mono ?_;rintro e w' ⟨rfl,rfl⟩)
    (try rw [WA]);go_ret;exact ⟨by rw [<-Cr HF.out,<-E0.out];rfl,rfl⟩
   .have t:=KT (tim x (BitVec.ofNat 8 k));have hf':(tim x (BitVec.ofNat 8 k)==1#8)=false:=(by simpa using hf);rw [hf'] at t;have HF:=Hd hf;clear hf hf';go_wp2_with (go_at_call 203;refine (pC _ _ _ E0.out _).mono ?_;rintro e w' ⟨rfl,rfl⟩);go_roundg (gk-1)
    case rel=>
     refine ⟨k+1,oA,oA,gnA,fun j h1 h2=> ?_,rfl⟩;by_cases hj:j=k
     .subst hj;exact HF.out
     .exact HN.out j h1 oA
    case measure=>omega
  .go_wp2_with fail;go_ret;obtain rfl:k=256:=oA;exact ⟨by rw [EW HN.out];rfl,rfl⟩
theorem kE (a:BitVec 8):B8 a/(2:Int)=B8 (a>>>1)/\B8 a/(4:Int)=B8 (a>>>2)/\B8 a/(8:Int)=B8 (a>>>3)/\B8 a/(16:Int)=B8 (a>>>4)/\B8 a/(32:Int)=B8 (a>>>5)/\B8 a/(64:Int)=B8 (a>>>6)/\B8 a/(128:Int)=B8 (a>>>7):=
 ⟨jw a 1,jw a 2,jw a 3,jw a 4,jw a 5,jw a 6,jw a 7⟩
theorem lQ (a:BitVec 8):B8 a*(2:Int)%(256:Int)=B8 (a<<<1)/\B8 a*(4:Int)%(256:Int)=B8 (a<<<2)/\B8 a*(8:Int)%(256:Int)=B8 (a<<<3)/\B8 a*(16:Int)%(256:Int)=B8 (a<<<4)/\B8 a*(32:Int)%(256:Int)=B8 (a<<<5)/\B8 a*(64:Int)%(256:Int)=B8 (a<<<6)/\B8 a*(128:Int)%(256:Int)=B8 (a<<<7):=
 ⟨mJ a 1,mJ a 2,mJ a 3,mJ a 4,mJ a 5,mJ a 6,mJ a 7⟩
theorem iX (y:BitVec 8) (k:Nat) {e:BitVec 8} (h:e=(qT y k&&&1#8)<<<k):Value.int .u8 (B8 (bxr y k|||e))= .int .u8 (B8 (bxr y (k+1))):=by
 rw [h];rfl
theorem MF (a:BitVec 8):B8 a%(256:Int)=B8 a:=by
 have h0:=jV a;have h1:=vt a;omega
def ME (w:World) (y:BitVec 8) (f:Nat) (o i:Value) (w':World):Prop:=
 ∃k,f+k=8/\o= .int .u8 (B8 (bxr y k))/\i= .int .i64 (k:Int)/\w=w'
theorem Et (x:BitVec 8) (w:World):
  Calls prog 191 #[.int .u8 (B8 x)] w fun e w'=>e= .returned (.int .u8 (B8 (bx x)))/\w=w':=by
 go_enter func191,ntmps191;go_wp2_with (go_at_call 202;refine (wK _ _).mono ?_;rintro e w' ⟨rfl,rfl⟩);obtain ⟨y,hy⟩:=Le (pw x);rw [<-hy];have HY:=Hd hy;clear hy;have b0:=jV y;have b1:=vt y;go_loopg [4,5] 8 (ME w y)
 case atStart=>exact ⟨0,oA,rfl,rfl,rfl⟩
 case round=>
  obtain ⟨k,hk,rfl,rfl,rfl⟩:=hrel;by_cases hlt:k<8
  .have s0:BitVec.ofInt 8 (B8 y/(2:Int)^k)=y>>>k:=(by rw [jw,bN]);have hcs:k=0\/k=1\/k=2\/k=3\/k=4\/k=5\/k=6\/k=7:=oA;rcases hcs with rfl|rfl|rfl|rfl|rfl|rfl|rfl|rfl
   all_goals
    go_wp2_with fail
   .go_roundg (gk-1)
    case rel=>exact ⟨1,oA,iX y 0 (by simp only [kE,MF,bN];simp [qT]),rfl,rfl⟩
    case measure=>omega
   .go_roundg (gk-1)
    case rel=>exact ⟨2,oA,iX y 1 (by simp only [kE,lQ,bN];simp [qT]),rfl,rfl⟩
    case measure=>omega
   .go_roundg (gk-1)
    case rel=>exact ⟨3,oA,iX y 2 (by simp only [kE,lQ,bN];simp [qT]),rfl,rfl⟩
    case measure=>omega
   .go_roundg (gk-1)
    case rel=>exact ⟨4,oA,iX y 3 (by simp only [kE,lQ,bN];simp [qT]),rfl,rfl⟩
    case measure=>omega
   .go_roundg (gk-1)
    case rel=>exact ⟨5,oA,iX y 4 (by simp only [kE,lQ,bN];simp [qT]),rfl,rfl⟩
    case measure=>omega
   .go_roundg (gk-1)
    case rel=>exact ⟨6,oA,iX y 5 (by simp only [kE,lQ,bN];simp [qT]),rfl,rfl⟩
    case measure=>omega
   .go_roundg (gk-1)
    case rel=>exact ⟨7,oA,iX y 6 (by simp only [kE,lQ,bN];simp [qT]),rfl,rfl⟩
    case measure=>omega
   .go_roundg (gk-1)
    case rel=>exact ⟨8,oA,iX y 7 (by simp only [kE,lQ,bN];simp [qT]),rfl,rfl⟩
    case measure=>omega
  .go_wp2_with fail;go_ret;obtain rfl:k=8:=oA;rw [HY.out];exact ⟨by rw [bx,<-Jv];rfl,rfl⟩
open Go.RowKit
def fv (a:BitVec 8):Value:= .int .u8 (B8 a)
def fL (n:Nat) (s:Nat->BitVec 8):List Value:=(List.range n).map fun i=>fv (s i)
def fA (n:Nat) (s:Nat->BitVec 8):Array Value:=(fL n s).toArray
theorem dd (n:Nat) (s:Nat->BitVec 8):(fL n s).length=n:=by simp [fL]
theorem aD (n:Nat) (s:Nat->BitVec 8):(fA n s).size=n:=by simp [fA,fL]
theorem eE {n i:Nat} (s:Nat->BitVec 8) (h:i<n):(fA n s)[i]? =some (.int .u8 (B8 (s i))):=by simp [fA,fL,h,fv]
theorem tm {n:Nat} {s t:Nat->BitVec 8} (h:∀i,i<n->s i=t i):fA n s=fA n t:=by
 unfold fA fL;congr 1;apply WS;intro i hi;rw [h i (Wk.1 hi)]
theorem Lw {n i:Nat} (s:Nat->BitVec 8) (v:BitVec 8) (_h:i<n):(fA n s).setIfInBounds i (.int .u8 (B8 v))=fA n (fun j=>if j=i then v else s j):=by
 apply Wr;intro j;by_cases hj:j<n
 .rw [eE _ hj];by_cases e:i=j
  .subst e;simp [aD,hj]
  .rw [Array.getElem?_setIfInBounds_ne e,eE _ hj,if_neg (Vf e)]
 .rw [Vy (by simp [aD];omega),Vy (by simp [aD];omega)]
theorem fj (n:Nat) (s:Nat->BitVec 8):(fA n s).toList.all (·.oneCell')=true:=by
 simp [fA,fL,fv,Value.oneCell']
theorem OM (n:Nat) (s:Nat->BitVec 8):fA n (tb n s)=fA n s:=tm fun _ h=>nT s h
theorem gu (a:BitVec 8):(B8 a).toNat=a.toNat:=by simp [B8]
theorem qA (a:BitVec 8):B8 a<256:=by have:=vt a;omega
section
variable {a b c w:World} {g:Nat}
theorem wt {x:Option Nat} (h:a.grownBy b x) (k:b.grownBy c x):a.grownBy c x:=
 ⟨k.os.trans h.os,k.tape.trans h.tape,k.output.trans h.output,At h.size k.size,fun i hi hn=>(k.block i (VF hi h.size) hn).trans (h.block i hi hn)⟩
theorem jq {x:Option Nat} (h:a.grownBy w x):a.grownBy w.drew x:=⟨h.os,h.tape,h.output,h.size,h.block⟩
theorem lG {x:Option Nat} (h:a.grownBy w x) (o:Obj):a.grownBy (w.alloc o) x:=wt h (World.grownBy_alloc w o x)
theorem gd (h:a.grownBy w (some g)) (i:Nat) (u:Value):a.grownBy (w.setCell ⟨g,i,none⟩ u) (some g):=
 ⟨h.os,h.tape,h.output,by simpa [World.setCell] using h.size,fun k hk hne=>(VU w ⟨g,i,none⟩ k u (by rintro rfl;exact hne rfl)).trans (h.block k hk hne)⟩
theorem KS {x:Option Nat} (h:a.grownBy w x) {g' i:Nat} (hg:a.heap.size<=g') (u:Value):a.grownBy (w.setCell ⟨g',i,none⟩ u) x:=
 ⟨h.os,h.tape,h.output,by simpa [World.setCell] using h.size,fun k hk hne=>(VU w ⟨g',i,none⟩ k u (by show k≠g';omega)).trans (h.block k hk hne)⟩
theorem nH {x:Option Nat} (h:a.grownBy w x) {g':Nat} (hg:a.heap.size<=g') (cs:Array Value):a.grownBy (w.setRow g' cs) x:=
 ⟨h.os,h.tape,h.output,by simpa [World.setRow] using h.size,fun k hk hne=>(WN w g' k cs oA).trans (h.block k hk hne)⟩
theorem kT {B:Nat} (h:Below B a w) (hz:B<=w.heap.size) (k:w.grownBy b (some g)) (hg:B<=g):Below B a b:=
 h.grown k hz (fun j hj=>by cases hj;exact hg)
end
theorem eY (k:Nat) (new old:Nat->BitVec 8):(fun j=>if j=k then new k else if j<k then new j else old j)=fun j=>if j<k+1 then new j else old j:=by
 funext j;by_cases h:j=k
 .subst h;simp
 .by_cases h2:j<k
  .simp [h,h2,show j<k+1 by omega]
  .simp [h,h2,show ¬j<k+1 by omega]
theorem Blk.ofF {w:World} {g n:Nat} {s t:Nat->BitVec 8} {ty:TypeId} (h:Blk w g (fA n s) ty) (e:∀i,i<n->s i=t i):Blk w g (fA n t) ty:=by rw [<-tm e];exact h
theorem Blk.setF {w:World} {g n k:Nat} {s:Nat->BitVec 8} {ty:TypeId} (h:Blk w g (fA n s) ty) (hk:k<n) (v:BitVec 8):Blk (w.setCell ⟨g,k,none⟩ (.int .u8 (B8 v))) g (fA n fun j=>if j=k then v else s j) ty:=by
 have:=h.set k (.int .u8 (B8 v));rwa [Lw _ _ hk] at this
theorem Blk.atF {w:World} {g n k:Nat} {s:Nat->BitVec 8} {ty:TypeId} (h:Blk w g (fA n s) ty) (hk:k<n) {v:BitVec 8} (hv:s k=v):w.cell? ⟨g,k,none⟩=some (.int .u8 (B8 v)):=by rw [h.rule,eE _ hk,hv]
attribute [local go_sem] dn dp dL bN
theorem Jd (k:Nat):((k:Int)+4*((k:Int)%4))%16=(frm k:Int):=by simp only [frm];omega
theorem vE:(Tryz.prog.info? 5).map (·.size)=some 1:=by kernel_rfl
theorem dU:lR prog 169 16:=⟨⟨_,underlying169,rfl⟩,krA⟩
theorem JZ:lR prog 235 4:=⟨⟨_,underlying235,rfl⟩,krA⟩
theorem vG (gb gc o:Nat) (s f:Nat->BitVec 8) (w:World) (hB:Blk w gb (fA 16 s) 169) (hne:gb≠gc)
  (hf:∀i,i<256->w.cell? ⟨gc,o+i,none⟩=some (.int .u8 (B8 (f i)))):
  Calls prog 172 #[.pointer (some ⟨gb,0,none⟩),.pointer (some ⟨gc,o,none⟩)] w fun e w'=>
   e= .returned (.tuple #[])/\Blk w' gb (fA 16 (tb 16 fun j=>f (s j).toNat)) 169/\w.grownBy w' (some gb):=by
 have hgc:gc<w.heap.size:=VV w _ (hf 0 oA);have HF:=Hd hf;clear hf;go_enter func172,ntmps172;go_wp2_with fail;go_loopw [7] (fun i wr=>∃k:Nat,k<=16/\i= .int .i64 k/\Blk wr gb (fA 16 (fun j=>if j<k then f (s j).toNat else s j)) 169/\w.grownBy wr (some gb)) (fun i _=>16-(intOf i).toNat)
 case atStart=>exact ⟨0,oA,rfl,by simpa using hB,Vv _ _⟩
 case round=>
  obtain ⟨k,hk,rfl,hb,hg⟩:=hrel;by_cases hlt:k<16
  .have hx0:=jV (s k);have hx1:=qA (s k);have hx2:=gu (s k);have C1:∀W,Old wr.drew W->W.cell? ⟨gb,k,none⟩=some (.int .u8 (B8 (s k))):=fun W h=>(by rw [(hb.drew.old h).rule,eE _ hlt];simp);have hgc2:gc<wr.heap.size:=VF hgc hg.size;go_wp2_with fail;refine aA (0::1::2::3::4::5::[]) krA krA cdA ?_
   repeat (first|refine lsA ?_|refine lqA ?_)
   refine bO ?_;have C2:∀W,Old wr.drew.drew W->W.cell? ⟨gc,o+(s k).toNat,none⟩=some (.int .u8 (B8 (f (s k).toNat))):=fun W h=>by
    rw [h.cell (p:=⟨gc,o+(s k).toNat,none⟩) hgc2];exact (hg.cell (HF.out _ (s k).isLt) (by simpa using hne.symm))
   go_wp2_with fail;refine aj true Old Old.refl Old.trans (.step 0 (.step 1 (.step 2 (.step 3 (.step 4 (.step 5 (.step 6 (.step 7 (.step 8 (.step 9 .done)))))))))) krA krA cdA ?_
   repeat (first|refine tsA ?_|refine tqA ?_)
   have hbd:=hb.drew.drew;have r2:=hbd.rule;have f2:=hbd.free;have ck:=eE (fun j=>if j<k then f (s j).toNat else s j) hlt;refine az rfl rfl rfA (fun K hK=> ?_);go_wp2_with fail;refine ap ?_;clear r2 f2;go_wp2_with fail;go_roundw
   case rel=>
    refine ⟨k+1,oA,gnA,?_,gd (jq (jq hg)) k _⟩;exact (hbd.setF hlt (f (s k).toNat)).ofF fun i _=>Wn (eY k (fun j=>f (s j).toNat) s) i
   case measure=>simp [intOf];omega
  .go_wp2_with fail;go_end0;obtain rfl:k=16:=oA;refine ⟨rfl,?_,hg⟩;rw [OM];rwa [show fA 16 (fun j=>if j<16 then f (s j).toNat else s j)=fA 16 (fun j=>f (s j).toNat) from tm fun i h=>if_pos h] at hb
theorem IL (gb gc r:Nat) (s K:Nat->BitVec 8) (w:World) (hB:Blk w gb (fA 16 s) 169) (hne:gb≠gc) (hr:r<11)
  (hf:∀i,i<16->w.cell? ⟨gc,512+r*16+i,none⟩=some (.int .u8 (B8 (K i)))):
  Calls prog 170 #[.pointer (some ⟨gc,0,none⟩),.pointer (some ⟨gb,0,none⟩),.int .i64 (r:Int)] w fun e w'=>
   e= .returned (.tuple #[])/\Blk w' gb (fA 16 (sx s K)) 169/\w.grownBy w' (some gb):=by
 have hgc:gc<w.heap.size:=VV w _ (hf 0 oA);have HF:=Hd hf;clear hf;have hr':(r:Int)<11:=oA;go_enter func170,ntmps170;go_wp2_with fail;go_loopw [7] (fun i wr=>∃k:Nat,k<=16/\i= .int .i64 k/\Blk wr gb (fA 16 (fun j=>if j<k then s j^^^K j else s j)) 169/\w.grownBy wr (some gb)) (fun i _=>16-(intOf i).toNat)
 case atStart=>exact ⟨0,oA,rfl,by simpa using hB,Vv _ _⟩
 case round=>
  obtain ⟨k,hk,rfl,hb,hg⟩:=hrel;by_cases hlt:k<16
  .have C1:∀W,Old wr.drew W->W.cell? ⟨gb,k,none⟩=some (.int .u8 (B8 (s k))):=fun W h=>(hb.drew.old h).atF hlt skA;have hgc2:gc<wr.heap.size:=VF hgc hg.size;have C2:∀W,Old wr.drew W->W.cell? ⟨gc,512+r*16+k,none⟩=some (.int .u8 (B8 (K k))):=fun W h=>by
    rw [h.cell (p:=⟨gc,512+r*16+k,none⟩) hgc2];exact (hg.cell (HF.out _ hlt) (by simpa using hne.symm))
   go_wp2_with fail;refine aj true Old Old.refl Old.trans (.step 0 (.step 1 (.step 2 (.step 3 (.step 4 (.step 5 (.step 6 (.step 7 (.step 8 (.step 9 (.step 10 (.step 11 (.step 12 (.step 13 (.step 14 (.step 15 (.step 16 .done))))))))))))))))) krA krA cdA ?_
   repeat (first|refine tsA ?_|refine tqA ?_)
   have hbd:=hb.drew;have r2:=hbd.rule;have f2:=hbd.free;have ck:=eE (fun j=>if j<k then s j^^^K j else s j) hlt;refine az rfl rfl rfA (fun K hK=> ?_);go_wp2_with fail;refine ap ?_;clear r2 f2;go_wp2_with fail;go_roundw
   case rel=>
    refine ⟨k+1,oA,gnA,?_,gd (jq hg) k _⟩;exact (hbd.setF hlt (s k^^^K k)).ofF fun i _=>Wn (eY k (fun j=>s j^^^K j) s) i
   case measure=>simp [intOf];omega
  .go_wp2_with fail;go_end0;obtain rfl:k=16:=oA;exact ⟨rfl,hb.ofF fun i h=>by rw [sx,nT _ h,if_pos h],hg⟩
theorem yY (gb:Nat) (s:Nat->BitVec 8) (w:World) (hB:Blk w gb (fA 16 s) 169):
  Calls prog 174 #[.pointer (some ⟨gb,0,none⟩),.bool false] w fun e w'=>
   e= .returned (.tuple #[])/\Blk w' gb (fA 16 (trn s)) 169/\w.grownBy w' (some gb):=by
 have hz:=hB.lt;go_enter func174,ntmps174;go_wp2_with (first|refine am rfl 169 dU _ rfl rfl hB (aD _ _) ?_|refine aa rfl 169 dU (.tmp 4) _ rfl rfl rfl (Blk.new _ _ _) (aD _ _) rfl (fj _ _) ?_);refine af (fun W0=>Blk W0 w.heap.size (fA 16 s) 169/\Blk W0 gb (fA 16 s) 169/\w.grownBy W0 (some gb)) ⟨(Blk.new _ _ _).setRow _,(hB.alloc _).setRow_other _ _ oA,nH (lG (Vv _ _) _) (Lt _) _⟩ ?_;rintro w0 ⟨hW,hB0,hg0⟩;obtain ⟨H,hH⟩:=Le w.heap.size;rw [<-hH] at hW⊢;have hHg:H≠gb:=oA;clear hB hz hH;go_loopw [10] (fun i wr=>∃k:Nat,k<=16/\i= .int .i64 k/\Blk wr H (fA 16 s) 169/\Blk wr gb (fA 16 (fun j=>if j<k then s (frm j) else s j)) 169/\w.grownBy wr (some gb)) (fun i _=>16-(intOf i).toNat)
 case atStart=>exact ⟨0,oA,rfl,hW,by simpa using hB0,hg0⟩
 case round=>
  clear hW hB0 hg0;obtain ⟨k,hk,rfl,hW,hb,hg⟩:=hrel;by_cases hlt:k<16
  .have hfr:frm k<16:=(vF k hlt).2.2.1;have hfi:=Jd k;have hfr':(frm k:Int)<16:=oA;have C1:∀W,Old wr.drew W->W.cell? ⟨H,frm k,none⟩=some (.int .u8 (B8 (s (frm k)))):=fun W h=>(hW.drew.old h).atF hfr rfl;go_wp2_with fail;refine aj true Old Old.refl Old.trans (.step 0 (.step 1 (.step 2 (.step 3 (.step 4 (.step 5 (.step 6 (.step 7 .done)))))))) krA krA cdA ?_
   repeat (first|refine tsA ?_|refine tqA ?_)
   have hbd:=hb.drew;have r2:=hbd.rule;have f2:=hbd.free;have ck:=eE (fun j=>if j<k then s (frm j) else s j) hlt;refine az rfl rfl rfA (fun K hK=> ?_);go_wp2_with fail;refine ap ?_;clear r2 f2;go_wp2_with fail;go_roundw
   case rel=>
    refine ⟨k+1,oA,gnA,hW.drew.other _ _ hHg,?_,gd (jq hg) k _⟩;exact (hbd.setF hlt (s (frm k))).ofF fun i _=>Wn (eY k (fun j=>s (frm j)) s) i
   case measure=>simp [intOf];omega
  .go_wp2_with fail;go_end0;obtain rfl:k=16:=oA;exact ⟨rfl,hb.ofF fun i h=>by rw [trn,nT _ h,if_pos h],hg⟩
end
section
open Go.RowKit
attribute [local go_sem] dn dp dL bN
def Mu (w:World) (gb H:Nat) (m s:Nat->BitVec 8) (f:Nat) (i:Value) (wr:World):Prop:=
 ∃k:Nat,f+k=16/\i= .int .i64 k/\Blk wr H (fA 4 m) 235/\Blk wr (H+1) (fA 16 s) 169/\Blk wr gb (fA 16 (fun j=>if j<k then mxs m s j 4 else s j)) 169/\w.grownBy wr (some gb)
def MD (w:World) (gb H k:Nat) (m s:Nat->BitVec 8) (f:Nat) (i:Value) (wr:World):Prop:=
 ∃q:Nat,f+q=4/\i= .int .i64 q/\Blk wr H (fA 4 m) 235/\Blk wr (H+1) (fA 16 s) 169/\Blk wr gb (fA 16 (fun j=>if j=k then mxs m s k q else if j<k then mxs m s j 4 else s j)) 169/\w.grownBy wr (some gb)
theorem Cg:Tryz.prog.arrayLen 169=16:=by kernel_rfl
theorem yB:Tryz.prog.elem 169=5:=by kernel_rfl
theorem OS (b c:Nat) (hc:c<=12) (W:World):(Instr.sliceAt 169 (.pointer (some ⟨b,0,none⟩)) (some (.int .i64 (c:Int))) (some (.int .i64 ((c:Int)+4))) none).run prog W= .ok (.slice (some ⟨b,c,none⟩) 4 (16-c)) W:=by
 have ht:Tryz.prog.underlying 169=some (.array (Tryz.prog.arrayLen 169) (Tryz.prog.elem 169)):=(by rw [Cg,yB];exact underlying169);have hs:(sizeOf 5).run prog W= .ok 1 W:=by
  have:=vE;cases hq:Tryz.prog.info? 5 with
  |none=>simp [hq] at this
  |some i=>simp [hq] at this;simp [sizeOf,typeInfo,hq,this]
 rw [run_sliceAt_array_lh W _ _ ht .i64 .i64 (c:Int) ((c:Int)+4) oA oA (by rw [Cg];omega),yB,hs,Cg];have e1:((c:Int)+4).toNat-c=4:=oA;have e2:¬16=c:=oA;simp only [slicedAt,WT,WM,e1,if_neg e2,Vs,Vk,VS]
theorem LP (q k d:Nat) (hq:q<4) (hk:k<16) (hd:d=(q+4-k%4)%4):(IntKind.i64.wrap (IntKind.i64.wrap ((q:Int)-(k:Int).tmod 4)+4)).tmod 4=(d:Int):=by
 rw [WJ (show (0:Int)<=(k:Int) by omega),VD ((q:Int)-(k:Int)%4) oA,VD _ oA,WJ oA];omega
theorem Iv (gb:Nat) (m s:Nat->BitVec 8) (w:World) (hB:Blk w gb (fA 16 s) 169):
  Calls prog 176 #[.pointer (some ⟨gb,0,none⟩),.agg (fA 4 m)] w fun e w'=>
   e= .returned (.tuple #[])/\Blk w' gb (fA 16 (mx m s)) 169/\w.grownBy w' (some gb):=by
 have hz:=hB.lt;have hA:=hB.alloc (.cells (fA 4 m) 235);go_enter func176,ntmps176;go_wp2_with (first|refine am rfl 169 dU _ rfl rfl hA (aD _ _) ?_|refine aa rfl 169 dU (.tmp 4) _ rfl rfl rfl (Blk.new2' _ _ _ _) (aD _ _) rfl (fj _ _) ?_);refine af (fun W0=>Blk W0 w.heap.size (fA 4 m) 235/\Blk W0 (w.heap.size+1) (fA 16 s) 169/\Blk W0 gb (fA 16 s) 169/\w.grownBy W0 (some gb)) ⟨(Blk.new2 _ _ _ _).setRow_other _ _ oA,(Blk.new2' _ _ _ _).setRow _,(hA.alloc _).setRow_other _ _ oA,nH (lG (lG (Vv _ _) _) _) oA _⟩ ?_;rintro w0 ⟨hM,hW,hB0,hg0⟩;obtain ⟨H,hH⟩:=Le w.heap.size;rw [<-hH] at hW hM⊢;have hHg:H≠gb:=oA;have hHg1:H+1≠gb:=oA;clear hB hz hH hA;go_loopg [11] 16 (Mu w gb H m s)
 case atStart=>exact ⟨0,oA,rfl,hM,hW,by simpa using hB0,hg0⟩
 case round=>
  clear hW hB0 hg0 hM;obtain ⟨k,hk,rfl,hM,hW,hb,hg⟩:=hrel;by_cases hlt:k<16
  .have tk:decide ((k:Int)<16)=true:=soA;have r2:=hb.rule;have f2:=hb.free;have ck:=eE (fun j=>if j<k then mxs m s j 4 else s j) hlt;obtain ⟨c,hc⟩:=Le (k/4*4);have hci:(k:Int)/4*4=(c:Int):=oA;have hc12:c<=12:=oA;have hc12':(c:Int)+4<=16:=oA;have HC:=Hd hc;clear hc;have hcut:=OS (H+1) c hc12;go_wp2_with fail;clear r2 f2;obtain ⟨g0,rfl⟩:∃g:Nat,g=gk:=⟨_,rfl⟩;go_loopg [27] 4 (MD w gb H k m s)
   case atStart=>exact ⟨0,oA,rfl,hM.other _ _ hHg,hW.other _ _ hHg1,hb.setF hlt 0#8,gd hg k _⟩
   case round=>
    clear hM hW hb hg;obtain ⟨q,hq,rfl,hM,hW,hb,hg⟩:=hrel;by_cases hq4:q<4
    .obtain ⟨d,hd⟩:=Le ((q+4-k%4)%4);have hdi:=LP q k d hq4 hlt hd;have hd4:d<4:=oA;have hd4':(d:Int)<4:=oA;have c1:=hW.atF (show c+q<16 by omega) rfl;have HD:=Hd hd;have HQ:=Hd hq;clear hd hq;go_wp2_with fail;have C1:∀W,Old wr.drew W->W.cell? ⟨gb,k,none⟩=some (.int .u8 (B8 (mxs m s k q))):=fun W h=>(hb.drew.old h).atF hlt skA;have C2:∀W,Old wr.drew W->W.cell? ⟨H,d,none⟩=some (.int .u8 (B8 (m d))):=fun W h=>(hM.drew.old h).atF hd4 rfl;clear c1;have hkI:(k:Int)<16:=oA;refine aj true Old Old.refl Old.trans (.step 0 (.step 1 (.step 2 (.step 3 (.step 4 (.step 5 (.step 6 (.step 7 (.step 8 (.step 9 (.step 10 (.step 11 (.step 12 (.step 13 (.step 16 (.step 14 (.step 15 (.step 17 (.step 18 .done))))))))))))))))))) krA krA cdA ?_
     repeat (first|refine tsA ?_|refine tqA ?_)
     refine an rfl rfl rfA (fun K hK=> ?_);go_wp2_with fail;refine (lZ (m d) (s (c+q)) _).mono ?_;rintro e w' ⟨rfl,rfl⟩;go_wp2_with fail;refine hK _ _ (Old.refl _) ?_;clear hK K
     repeat (first|refine tsA ?_|refine tqA ?_)
     have hbd:=hb.drew;have r3:=hbd.rule;have f3:=hbd.free;have ck3:=eE (fun j=>if j=k then mxs m s k q else if j<k then mxs m s j 4 else s j) hlt;refine az rfl rfl rfA (fun K hK=> ?_);go_wp2_with fail;refine ap ?_;clear r3 f3 ck3;go_wp2_with fail;go_roundg (gk-1)
     case rel=>
      have hd:=HD.out;have hq:=HQ.out;refine ⟨q+1,oA,gnA,hM.drew.other _ _ hHg,hW.drew.other _ _ hHg1,?_,gd (jq hg) k _⟩;refine (hbd.setF hlt (mxs m s k q^^^tim (m d) (s (c+q)))).ofF fun i _=> ?_;by_cases e:i=k
      .rw [if_pos e,if_pos e,mxs,<-hd,<-HC.out]
      .rw [if_neg e,if_neg e,if_neg e]
     case measure=>have hq:=HQ.out;omega
    .obtain rfl:q=4:=oA;go_wp2_with fail;go_roundg (g0-1)
     case rel=>exact ⟨k+1,oA,gnA,hM,hW,hb.ofF fun i _=>Wn (eY k (fun j=>mxs m s j 4) s) i,hg⟩
     case measure=>omega
  .go_wp2_with fail;go_end0;obtain rfl:k=16:=oA;exact ⟨rfl,hb.ofF fun i h=>by rw [mx,nT _ h,if_pos h],hg⟩
end
end Go.Proofs.YtioigihakjlopaaGreat

import Derived.Test.YtioigihakjlopaaGreatVF39
import Derived.Test.YtioigihakjlopaaGreatVF40
namespace Go.Proofs.YtioigihakjlopaaGreat
open Go.Proofs.Tryz
set_option linter.unusedVariables false
set_option linter.unusedSimpArgs false
set_option maxHeartbeats 16000000
set_option maxRecDepth 100000
section
open Go.RowKit
theorem vH (s:CS) (h:(be s).2.b.length<=1048576):qJ (dy (jl s).1):=by
 unfold qJ;rw [mU];have h1:=qq s 1 dcA;unfold jl;dsimp only;rw [ltA];have h2:(dF 1 s).2.b.length<=1048576:=by
  unfold dF;split
  .exact h
  .exact h
 omega
structure FW (w:World) (X C D:Nat) (a:Option Addr) (cap:Nat) (bs:List UInt8) (p:ao) (h:aW) (s:CS) (W:World):Prop where
 cur:FAt W w.heap.size C a cap bs s
 bX:Blk W X bR 40
 bD:Blk W D (ak p h).toArray 40
 own:aX W (C+1) p h
 below:Below w.heap.size w W
section
variable {w W W1:World} {X C D:Nat} {p p':ao} {h h':aW} {s s1:CS} {a:Option Addr} {cap:Nat} {bs:List UInt8}
theorem FAt.blk (h:FAt W w.heap.size C a cap bs s):∃k,Blk W C (fcV a bs.length cap k s.bad) 149:=by
 obtain ⟨k,h,-⟩:=h;exact ⟨k,h.blk⟩
theorem FW.turn (q:FW w X C D a cap bs p h s W) (hC:w.heap.size<=C) (hc:FAt W1 w.heap.size C a cap bs s1) (ht:aJ (fun x=>x=C) W W1):FW w X C D a cap bs p h s1 W1:=by
 obtain ⟨k,hk⟩:=q.cur.blk;have e1:X≠C:=q.bX.ne hk dcA;have e2:D≠C:=q.bD.ne hk dcA;exact ⟨hc,(ht.block X q.bX.lt e1).trans q.bX,(ht.block D q.bD.lt e2).trans q.bD,q.own.turn ht (fun x hx=>by omega),q.below.trans (ht.below (fun x hx=>by omega) q.below.size)⟩
theorem FW.put (q:FW w X C D a cap bs p h s W) (hD:w.heap.size<=D) (hDX:X≠D) (i:Nat) (v:Value) (e:(ak p h).toArray.setIfInBounds i v=(ak p' h').toArray) (ho:aX (W.setCell ⟨D,i,none⟩ v) (C+1) p' h'):FW w X C D a cap bs p' h' s (W.setCell ⟨D,i,none⟩ v):=by
 obtain ⟨k,hk⟩:=q.cur.blk;have e2:C≠D:=hk.ne q.bD dcA;refine ⟨q.cur.keep (VU W ⟨D,i,none⟩ C v e2) (Xl (p:=⟨D,i,none⟩) (AT _ _) hD v),q.bX.other _ _ hDX,?_,ho,Xl (p:=⟨D,i,none⟩) q.below hD v⟩;rw [<-e];exact q.bD.set i v
theorem FW.old (q:FW w X C D a cap bs p h s W) (hb:Below W.heap.size W W1):FW w X C D a cap bs p h s W1:=
 ⟨q.cur.keep (hb.block C q.cur.lt) (hb.mono q.below.size),q.bX.old hb,q.bD.old hb,q.own.old hb,ae q.below hb⟩
theorem FW.putRow (q:FW w X C D a cap bs p h s W) (hD:w.heap.size<=D) (hDX:X≠D) (ho:aX (W.setRow D (ak p' h').toArray) (C+1) p' h'):FW w X C D a cap bs p' h' s (W.setRow D (ak p' h').toArray):=by
 obtain ⟨k,hk⟩:=q.cur.blk;have e2:C≠D:=hk.ne q.bD dcA;exact ⟨q.cur.keep (XC W D C _ e2) (ag (AT _ _) hD _),q.bX.setRow_other _ _ hDX,q.bD.setRow _,ho,ag q.below hD _⟩
theorem FAt.max (h:FAt W w.heap.size C a cap bs s):s.b.length<=1048576:=by
 obtain ⟨k,h,e⟩:=h;rw [e,ldA];have:=h.max;omega
end
def FRdN (w:World) (X C D:Nat) (a:Option Addr) (cap:Nat) (bs:List UInt8) (T:ao×CS) (f:Nat) (i:Value) (W:World):Prop:=∃(k:Nat) (p:ao) (h:aW) (s:CS),k+f=2/\i= .int .i64 (k:Int)/\FW w X C D a cap bs p h s W/\Hid (T=Jf f p s)
def FRdK (w:World) (X C D:Nat) (a:Option Addr) (cap:Nat) (bs:List UInt8) (T:ao×CS) (f:Nat) (i:Value) (W:World):Prop:=∃(k:Nat) (p:ao) (h:aW) (s:CS),k+f=2/\i= .int .i64 (k:Int)/\FW w X C D a cap bs p h s W/\Hid (T=CG f p s)
def MN (w:World) (X C D:Nat) (a:Option Addr) (cap:Nat) (bs:List UInt8) (T:ao×CS) (W:World):Prop:=∃h:aW,FW w X C D a cap bs T.1 h T.2 W
def Pn (w:World) (X C D:Nat) (a:Option Addr) (cap:Nat) (bs:List UInt8) (kd g:Int) (s1:CS) (T:ao×CS) (wx:World):Prop:=
 ((kd=2/\MN w X C D a cap bs T wx)\/(kd≠2/\FW w X C D a cap bs (jx kd g) dI s1 wx))/\wx.cell? ⟨D,0,none⟩=some (.int .i8 kd)
theorem Cz (w:World) (a:Option Addr) (n cap:Nat) (bs:List UInt8) (hb:ah w a bs) (hn:bs.length=n) (hm:n<=1048576) (hc:n<=cap):
  Calls prog 31 #[.slice a n cap] w (jt w bs):=by
 match bs,hn with
 | [],hn=>
  obtain rfl:n=0:=(by simpa using hn.symm);go_enter func31,ntmps31;go_upto_region 2 with (fail);obtain ⟨X,hX⟩:=Le w.heap.size;rw [<-hX];refine af (fun W=>Blk W X bR 40/\Below w.heap.size w W) ⟨by subst hX;exact Blk.new w _ _,by subst hX;exact cL⟩ ?_;rintro W1 ⟨bX,hbw⟩;have hXw:w.heap.size<=X:=VR hX.symm;clear hX;go_wp2_with (refine aa rfl 40 aZ (.tmp 2) _ rfl rfl rfl bX rfl rfl rfA ?_);exact aU rfl aZ rfl (bX.setRow _) rfl rfl rfl ⟨dI,rfl,dV _ _,ag hbw hXw _⟩
 |y::r,hn=>
  have d0:decide ((n:Int)<1)=false:=(by rw [<-hn,VT];exact Vd oA);obtain ⟨bk,ok,rfl,hrk⟩:=hb.at skA;have hrk0:=hrk 0 skA;simp only [Nat.add_zero,List.getElem_cons_zero] at hrk0;have hbkl:=VV w _ hrk0;have hi0:(0:Int)<(n:Int):=(by rw [<-hn,VT];omega);go_enter func31,ntmps31;go_upto_region 4 with (fail);obtain ⟨X,hX⟩:=Le w.heap.size;rw [<-hX];refine af (fun W=>Blk W X bR 40/\FAt W w.heap.size (X+1) (some ⟨bk,ok,none⟩) cap (y::r) ⟨r,false⟩/\Below w.heap.size w W) ⟨by subst hX;exact Blk.new2 w _ _ _,?_,by subst hX;exact cL⟩ ?_
  .refine ⟨1,⟨?_,(hb.alloc _).alloc _,hb.inB rfl,oA,skA,by rw [hn];omega,by rw [hn];exact hc⟩,rfl⟩;rw [hn];subst hX;exact Blk.new2' w _ _ _
  rintro W1 ⟨bX,hcur,hbw⟩;have hXw:w.heap.size<=X:=VR hX.symm;clear hX;obtain ⟨C,hC⟩:=Le (X+1);rw [<-hC] at hcur⊢;have hXC:X≠C:=oA;have hCw:w.heap.size<=C:=oA;clear hC;have hcell:W1.cell? ⟨bk,ok,none⟩=some (.int .u8 (U8 y)):=(hbw.cell (p:=⟨bk,ok,none⟩) hbkl).trans hrk0;obtain ⟨kd,hkd⟩:=Le (kW y);have hkw:IntKind.i8.wrap (U8 y)=kd:=hkd.symm;have hwk:wf8 kd:=(by rw [hkd];exact sd y);have HKD:=Hd hkd;clear hkd hrk hrk0;have HWK:=Hd hwk;clear hwk;go_upto_region 5 with (refine aa rfl 40 aZ (.tmp 5) _ rfl rfl rfl (Blk.new _ _ _) rfl rfl rfA ?_);obtain ⟨D,hD⟩:=Le W1.heap.size;rw [<-hD];refine af (fun W=>FW w X C D (some ⟨bk,ok,none⟩) cap (y::r) (jx kd 0) dI ⟨r,false⟩ W) ?_ ?_
  .have bD:=(Blk.new W1 bR 40).setRow (cD bR 0 (ak (jx kd 0) dI).toArray);rw [mW] at bD;have hbW:Below W1.heap.size W1 ((W1.alloc (.cells bR 40)).setRow D (ak (jx kd 0) dI).toArray):=ag ((AT _ _).alloc (Lt _) _) (VR hD.symm) _;have fw:FW w X C D (some ⟨bk,ok,none⟩) cap (y::r) (jx kd 0) dI ⟨r,false⟩ ((W1.alloc (.cells bR 40)).setRow D (ak (jx kd 0) dI).toArray):=
    ⟨hcur.keep (hbW.block C hcur.lt) (hbW.mono hbw.size),bX.old hbW,by rw [hD];exact bD,⟨HWK.out,rfl,rfl,Vo _,Vo _,Vo _,av.nil _ _,av.nil _ _,av.nil _ _,⟨rfl,rfl,rfl,rfl,av.nil _ _,aN.nil _ _⟩⟩,ae hbw hbW⟩
   exact fw
  have hXD:X≠D:=(by have:=bX.lt;omega);have hwD:w.heap.size<=D:=(by rw [hD];exact hbw.size);clear hcur hcell hkw bX hbw hD;intro W2 q;have cb:=iJ W2 w.heap.size C _ cap _ _ q.cur q.below.size;go_wp2_with fail;refine cb.mono ?_;clear cb;rintro e W3 ⟨rfl,hc3,ht3⟩;have q3:=q.turn hCw hc3 ht3;have HG:=Hd (jd ⟨r,false⟩);obtain ⟨T,hT⟩:=Le (MH kd ⟨r,false⟩);have HR:=Hd (show fY (y::r)=uW T by rw [hT,HKD.out];exact Er y r);have HT:=Hd (show T=if kd=2 then ML ⟨r,false⟩ else if kd=1 then tg (jx 1 (be ⟨r,false⟩).1) (be ⟨r,false⟩).2 else (jx kd (be ⟨r,false⟩).1,(be ⟨r,false⟩).2) from hT);unfold ML at HT;clear hT q hc3 ht3;generalize (be ⟨r,false⟩).1=g at*;generalize (be ⟨r,false⟩).2=s1 at*;have f3:=q3.bD.free;have l3:W3.cell? ⟨D,1,none⟩=some (.int .i64 0):=q3.bD.cell rfl;go_upto_region 7 with (fail);refine af (fun W=>FW w X C D (some ⟨bk,ok,none⟩) cap (y::r) (jx kd g) dI s1 W) (q3.put hwD hXD 1 _ rfl ?_) ?_
  .have:=q3.own.cell1 (i:=1) q3.bD dcA dcA (.int .i64 g);exact ⟨this.kind,HG.out,this.table,this.fmt,this.n0,this.n1,this.d0,this.d1,this.dr,this.act⟩
  clear q3 f3 l3;intro W4 q;have ck:W4.cell? ⟨D,0,none⟩=some (.int .i8 kd):=q.bD.cell rfl;obtain ⟨tb,htb⟩:=Le ((decide (kd=2)&& !s1.bad));have HTB:=Hd htb;clear htb;go_cut [42] (fun v wx=>v= .bool tb/\wx=W4)
  case first=>
   obtain ⟨k,hk,hsk⟩:=q.cur;have c2:W4.cell? ⟨C,2,none⟩=some (.bool s1.bad):=hk.blk.cell rfl;by_cases hk2:kd=2
   .subst hk2;have e:tb= !s1.bad:=(by rw [HTB.out];simp);subst e;clear HTB q hk;go_wp2_with fail;go_meet;exact ⟨by first|rfl|simp,rfl⟩
   .have e:tb=false:=(by rw [HTB.out,Vd hk2];rfl);subst e;have t2:(kd==2)=false:=(by simpa using hk2);clear HTB q hk;go_wp2_with fail;go_meet;exact ⟨rfl,rfl⟩
  case rest=>
  obtain ⟨rfl,rfl⟩:=hcut;go_upto_if 42 with (fail);go_cut [7,8,9] (fun _ _ _ wx=>Pn w X C D (some ⟨bk,ok,none⟩) cap (y::r) kd g s1 T wx)
  case first=>
   by_cases hk2:kd=2
   .subst hk2;obtain ⟨k,hk,hsk⟩:=q.cur;have c1:wc.cell? ⟨C,1,none⟩=some (.int .i64 (k:Int)):=hk.blk.cell rfl;have c2:wc.cell? ⟨C,2,none⟩=some (.bool s1.bad):=hk.blk.cell rfl;cases hbd:s1.bad with
    |true=>
     rw [hbd] at c2;have hT:T=(jx 2 g,s1):=(by rw [HT.out,if_pos rfl,if_pos hbd]);obtain rfl:tb=false:=(by rw [HTB.out,hbd];rfl);have fin:MN w X C D (some ⟨bk,ok,none⟩) cap (y::r) T wc:=⟨dI,by rw [hT];exact q⟩;have FIN:=Hd fin;clear fin hT hk q;go_wp2_with fail;go_meet;exact ⟨.inl ⟨rfl,FIN.out⟩,ck⟩
    |false=>
     obtain rfl:tb=true:=(by rw [HTB.out,hbd];rfl);have hCl:=hk.blk.lt;have hkn:k<=n:=(by rw [<-hn];exact hk.le);have i2:(k:Int)<=(n:Int):=oA;have i3:((n:Int)).toNat-k=n-k:=oA;rw [hbd] at c2;have hct:=ah.cutV hk.row rfl hk.capOk k hk.le;by_cases hcq:cap=k
     .rw [show kP (some ⟨bk,ok,none⟩) cap k=some ⟨bk,ok,none⟩ from if_pos hcq] at hct;subst hcq;have i4:n-cap=0:=oA;have hrow:ah wc (some ⟨bk,ok,none⟩) s1.b:=(by rw [hsk];exact hct);have cb:=ur wc (some ⟨bk,ok,none⟩) 0 0 s1.b hrow (by rw [hsk,ldA,hn];try omega) oA;generalize (dP s1.b).1=pa at*;generalize (dP s1.b).2.1=ka at*;generalize (dP s1.b).2.2=er at*;have HT1:=Hd HT.out;clear HT hrow;go_wp2_with fail;refine cb.mono ?_;clear cb;rintro e W5 ⟨ha,rfl,ho1,hb5⟩;have q5:=q.old hb5;replace ho1:=ho1.lower (B':=C+1) hCl;clear q hk c1 c2 ck;rw [ed];go_upto_region 9 with (refine aa rfl 38 GK (.tmp 7) _ rfl rfl rfl (Blk.new _ _ _) rfl rfl rfA ?_);obtain ⟨Y,hY⟩:=Le W5.heap.size;rw [<-hY];refine af (fun W=>FW w X C D (some ⟨bk,ok,none⟩) cap (y::r) (jx 2 g) dI s1 W/\Blk W Y (ay pa ha).toArray 38/\bh W (C+1) pa ha) ⟨q5.old (by subst hY;exact cL),by subst hY;exact (Blk.new W5 _ _).setRow _,ho1.old (by subst hY;exact cL)⟩ ?_;clear q5 ho1 hY hb5;rintro W6 ⟨q6,bY,ho1⟩;have hbD:=q6.bD;go_upto_region 10 with (first|refine am rfl 38 GK (.tmp 7) rfl rfl bY rfl ?_|refine eP rfl 38 GK (.tmp 55) _ rfl rfl rfl hbD rfl (Lt 15) rfA ?_);rw [show cD (ak (jx 2 g) dI).toArray 9 (ay pa ha).toArray=(ak {jx 2 g with act:=pa} {dI with act:=ha}).toArray from rfl];refine af (fun W=>FW w X C D (some ⟨bk,ok,none⟩) cap (y::r) {jx 2 g with act:=pa} {dI with act:=ha} s1 W) (q6.putRow hwD hXD ?_) ?_
      .have this:=q6.own.row1 hbD dcA dcA (ak {jx 2 g with act:=pa} {dI with act:=ha}).toArray;exact ⟨this.kind,this.game,this.table,this.fmt,this.n0,this.n1,this.d0,this.d1,this.dr,ho1.row1 hbD dcA dcA _⟩
      clear q6 ho1 hbD bY;intro W7 q7;have hT:T=({jx 2 g with act:=pa},⟨[],decide (er≠0)⟩):=by
       rw [HT1.out];simp only [if_true,hbd,if_neg Bool.false_ne_true]
      have HTT:=Hd hT;clear hT HT1;obtain ⟨k7,hk7,hs7⟩:=q7.cur;have d0:W7.cell? ⟨C,0,none⟩=some (.slice (some ⟨bk,ok,none⟩) (y::r).length cap):=hk7.blk.cell rfl;have d1:W7.cell? ⟨C,1,none⟩=some (.int .i64 (k7:Int)):=hk7.blk.cell rfl;have d2:W7.cell? ⟨C,2,none⟩=some (.bool s1.bad):=hk7.blk.cell rfl;have f7:=hk7.blk.free;have fin:Pn w X C D (some ⟨bk,ok,none⟩) cap (y::r) 2 g s1 T ((W7.setCell ⟨C,2,none⟩ (.bool (er !=0))).setCell ⟨C,1,none⟩ (.int .i64 (n:Int))):=by
       have h8:=hk7.setBad (er !=0);have h9:=h8.setAt (y::r).length (Lt _);rw [hn] at h9;have q8:FW w X C D (some ⟨bk,ok,none⟩) cap (y::r) {jx 2 g with act:=pa} {dI with act:=ha} ⟨[],er !=0⟩ ((W7.setCell ⟨C,2,none⟩ (.bool (er !=0))).setCell ⟨C,1,none⟩ (.int .i64 (n:Int))):=
        q7.turn hCw ⟨n,h9,by dsimp only;rw [<-hn,List.drop_length]⟩ (((aJ.refl (fun x=>x=C) W7).one _).one _)
       refine ⟨.inl ⟨rfl,{dI with act:=ha},?_⟩,q8.bD.cell rfl⟩;rw [HTT.out];have e:decide (er≠0)=(er !=0):=(by simp [bne];by_cases h:er=0<;>simp [h]);dsimp only
       rw [e];exact q8
      have FIN:=Hd fin;clear fin q7 hk7;go_wp2_with fail;go_meet;exact FIN.out
     .rw [show kP (some ⟨bk,ok,none⟩) cap k=some ⟨bk,ok+k,none⟩ from by unfold kP;rw [if_neg hcq,Vk,Xf,Vs]] at hct;have hrow:ah wc (some ⟨bk,ok+k,none⟩) s1.b:=(by rw [hsk];exact hct);have cb:=ur wc (some ⟨bk,ok+k,none⟩) (n-k) (cap-k) s1.b hrow (by rw [hsk,ldA,hn];try omega) oA;generalize (dP s1.b).1=pa at*;generalize (dP s1.b).2.1=ka at*;generalize (dP s1.b).2.2=er at*;have HT1:=Hd HT.out;clear HT hrow;go_wp2_with fail;refine cb.mono ?_;clear cb;rintro e W5 ⟨ha,rfl,ho1,hb5⟩;have q5:=q.old hb5;replace ho1:=ho1.lower (B':=C+1) hCl;clear q hk c1 c2 ck;rw [ed];go_upto_region 9 with (refine aa rfl 38 GK (.tmp 7) _ rfl rfl rfl (Blk.new _ _ _) rfl rfl rfA ?_);obtain ⟨Y,hY⟩:=Le W5.heap.size;rw [<-hY];refine af (fun W=>FW w X C D (some ⟨bk,ok,none⟩) cap (y::r) (jx 2 g) dI s1 W/\Blk W Y (ay pa ha).toArray 38/\bh W (C+1) pa ha) ⟨q5.old (by subst hY;exact cL),by subst hY;exact (Blk.new W5 _ _).setRow _,ho1.old (by subst hY;exact cL)⟩ ?_;clear q5 ho1 hY hb5;rintro W6 ⟨q6,bY,ho1⟩;have hbD:=q6.bD;go_upto_region 10 with (first|refine am rfl 38 GK (.tmp 7) rfl rfl bY rfl ?_|refine eP rfl 38 GK (.tmp 55) _ rfl rfl rfl hbD rfl (Lt 15) rfA ?_);rw [show cD (ak (jx 2 g) dI).toArray 9 (ay pa ha).toArray=(ak {jx 2 g with act:=pa} {dI with act:=ha}).toArray from rfl];refine af (fun W=>FW w X C D (some ⟨bk,ok,none⟩) cap (y::r) {jx 2 g with act:=pa} {dI with act:=ha} s1 W) (q6.putRow hwD hXD ?_) ?_
      .have this:=q6.own.row1 hbD dcA dcA (ak {jx 2 g with act:=pa} {dI with act:=ha}).toArray;exact ⟨this.kind,this.game,this.table,this.fmt,this.n0,this.n1,this.d0,this.d1,this.dr,ho1.row1 hbD dcA dcA _⟩
      clear q6 ho1 hbD bY;intro W7 q7;have hT:T=({jx 2 g with act:=pa},⟨[],decide (er≠0)⟩):=by
       rw [HT1.out];simp only [if_true,hbd,if_neg Bool.false_ne_true]
      have HTT:=Hd hT;clear hT HT1;obtain ⟨k7,hk7,hs7⟩:=q7.cur;have d0:W7.cell? ⟨C,0,none⟩=some (.slice (some ⟨bk,ok,none⟩) (y::r).length cap):=hk7.blk.cell rfl;have d1:W7.cell? ⟨C,1,none⟩=some (.int .i64 (k7:Int)):=hk7.blk.cell rfl;have d2:W7.cell? ⟨C,2,none⟩=some (.bool s1.bad):=hk7.blk.cell rfl;have f7:=hk7.blk.free;have fin:Pn w X C D (some ⟨bk,ok,none⟩) cap (y::r) 2 g s1 T ((W7.setCell ⟨C,2,none⟩ (.bool (er !=0))).setCell ⟨C,1,none⟩ (.int .i64 (n:Int))):=by
       have h8:=hk7.setBad (er !=0);have h9:=h8.setAt (y::r).length (Lt _);rw [hn] at h9;have q8:FW w X C D (some ⟨bk,ok,none⟩) cap (y::r) {jx 2 g with act:=pa} {dI with act:=ha} ⟨[],er !=0⟩ ((W7.setCell ⟨C,2,none⟩ (.bool (er !=0))).setCell ⟨C,1,none⟩ (.int .i64 (n:Int))):=
        q7.turn hCw ⟨n,h9,by dsimp only;rw [<-hn,List.drop_length]⟩ (((aJ.refl (fun x=>x=C) W7).one _).one _)
       refine ⟨.inl ⟨rfl,{dI with act:=ha},?_⟩,q8.bD.cell rfl⟩;rw [HTT.out];have e:decide (er≠0)=(er !=0):=(by simp [bne];by_cases h:er=0<;>simp [h]);dsimp only
       rw [e];exact q8
      have FIN:=Hd fin;clear fin q7 hk7;go_wp2_with fail;go_meet;exact FIN.out
   .obtain rfl:tb=false:=(by rw [HTB.out,Vd hk2];rfl);have t2:(kd==2)=false:=(by simpa using hk2);go_wp2_with fail;go_meet;exact ⟨.inr ⟨hk2,q⟩,ck⟩
  case rest=>
   clear q ck;obtain ⟨hcut,ck⟩:=hcut;go_upto_if 68 with (fail);go_cut [10,11,12,13,14,15,16] (fun _ _ _ _ _ _ _ wx=>MN w X C D (some ⟨bk,ok,none⟩) cap (y::r) T wx)
   case first=>
    rcases hcut with ⟨rfl,hE⟩|⟨hk2,q⟩
    .go_wp2_with fail;go_meet;exact hE
    by_cases hk1:kd=1
    .subst hk1;have hT:=HT.out;rw [if_neg dcA,if_pos rfl] at hT;unfold tg at hT;have cb:=iJ wc w.heap.size C _ cap _ _ q.cur q.below.size;go_wp2_with fail;refine cb.mono ?_;clear cb;rintro e W1 ⟨rfl,hc1,ht1⟩;have q1:=q.turn hCw hc1 ht1;have f1:=q1.bD.free;have l1:W1.cell? ⟨D,2,none⟩=some (.int .i64 0):=q1.bD.cell rfl;have hwf:=jd s1;generalize (be s1).1=t at*;generalize (be s1).2=s2 at*;have HT1:=Hd hT;clear hT HT q hc1 ht1 ck;go_upto_region 15 with fail;refine af (fun W=>FW w X C D (some ⟨bk,ok,none⟩) cap (y::r) {jx 1 g with table:=t} dI s2 W) (q1.put hwD hXD 2 _ rfl ?_) ?_
     .have:=q1.own.cell1 (i:=2) q1.bD dcA dcA (.int .i64 t);exact ⟨this.kind,this.game,hwf,this.fmt,this.n0,this.n1,this.d0,this.d1,this.dr,this.act⟩
     clear q1 f1 l1;intro W2 q;have hz:=vH s2 (At (fK s2) q.cur.max);have cb:=pZ W2 w.heap.size C _ cap _ _ q.cur q.below.size;go_wp2_with fail;refine cb.mono ?_;clear cb;rintro e W1 ⟨rfl,hc1,ht1⟩;have q1:=q.turn hCw hc1 ht1;have f1:=q1.bD.free;have l1:W1.cell? ⟨D,3,none⟩=some (.string emN):=q1.bD.cell rfl;have hT:=HT1.out;unfold Fh at hT;generalize dy (jl s2).1=f at*;generalize (jl s2).2=s3 at*;have HT2:=Hd hT;clear hT HT1 q hc1 ht1;go_upto_region 17 with fail;refine af (fun W=>FRdN w X C D (some ⟨bk,ok,none⟩) cap (y::r) T 2 (.int .i64 0) W) ⟨0,_,dI,s3,rfl,rfl,q1.put hwD hXD 3 _ rfl ?_,Hd HT2.out⟩ ?_
     .have:=q1.own.cell1 (i:=3) q1.bD dcA dcA (.string f);exact ⟨this.kind,this.game,this.table,hz,this.n0,this.n1,this.d0,this.d1,this.dr,this.act⟩
     clear q1 f1 l1 HT2 hz hwf;intro W3 hst;go_wp2_with fail;go_loopg [12,13] 2 (fun f i _ wr=>FRdN w X C D (some ⟨bk,ok,none⟩) cap (y::r) T f i wr)
     case atStart=>exact hst
     case round=>
      clear hst;obtain ⟨k,p,h,s,hf,rfl,q,hR⟩:=hrel;have HF:=Hd hf;clear hf;by_cases hk:k<2
      .have h3:k=0\/k=1:=oA;rcases h3 with rfl|rfl
       .have hR2:Hid (T=np p s):=by
         have e:gk=2:=(by have:=HF.out;omega);have h:=hR.out;rw [e] at h;exact Hd h
        clear hR;have hz:=vH s (At (fK s) q.cur.max);have cb:=pZ wr w.heap.size C _ cap _ s q.cur q.below.size;go_wp2_with fail;refine cb.mono ?_;clear cb;rintro e W1 ⟨rfl,hc1,ht1⟩;have q1:=q.turn hCw hc1 ht1;have f1:=q1.bD.free;have l1:W1.cell? ⟨D,4,none⟩=some (.string p.n0):=q1.bD.cell rfl;have hT:=hR2.out;unfold np at hT;generalize dy (jl s).1=x at*;generalize (jl s).2=s' at*;have HT2:=Hd hT;clear hT hR2 q hc1 ht1;go_wp2_with fail;go_roundg 1
        case measure=>have:=HF.out;omega
        case rel=>
         refine ⟨0+1,{p with n0:=x},h,s',oA,gnA,q1.put hwD hXD 4 _ rfl ?_,Hd HT2.out⟩;have:=q1.own.cell1 (i:=4) q1.bD dcA dcA (.string x);exact ⟨this.kind,this.game,this.table,this.fmt,by first|exact hz|exact this.n0,by first|exact hz|exact this.n1,this.d0,this.d1,this.dr,this.act⟩
       .have hR2:Hid (T=nr p s):=by
         have e:gk=1:=(by have:=HF.out;omega);have h:=hR.out;rw [e] at h;exact Hd h
        clear hR;have hz:=vH s (At (fK s) q.cur.max);have cb:=pZ wr w.heap.size C _ cap _ s q.cur q.below.size;go_wp2_with fail;refine cb.mono ?_;clear cb;rintro e W1 ⟨rfl,hc1,ht1⟩;have q1:=q.turn hCw hc1 ht1;have f1:=q1.bD.free;have l1:W1.cell? ⟨D,5,none⟩=some (.string p.n1):=q1.bD.cell rfl;have hT:=hR2.out;unfold nr at hT;generalize dy (jl s).1=x at*;generalize (jl s).2=s' at*;have HT2:=Hd hT;clear hT hR2 q hc1 ht1;go_wp2_with fail;go_roundg 0
        case measure=>have:=HF.out;omega
        case rel=>
         refine ⟨1+1,{p with n1:=x},h,s',oA,gnA,q1.put hwD hXD 5 _ rfl ?_,Hd HT2.out⟩;have:=q1.own.cell1 (i:=5) q1.bD dcA dcA (.string x);exact ⟨this.kind,this.game,this.table,this.fmt,by first|exact hz|exact this.n0,by first|exact hz|exact this.n1,this.d0,this.d1,this.dr,this.act⟩
      .obtain rfl:k=2:=(by have:=HF.out;omega);have hR3:Hid (T=CG 2 p s):=by
        have e:gk=0:=(by have:=HF.out;omega);have h:=hR.out;rw [e] at h;exact Hd h
       clear hR;have hst:FRdK w X C D (some ⟨bk,ok,none⟩) cap (y::r) T 2 (.int .i64 0) wr:=⟨0,p,h,s,rfl,rfl,q,hR3⟩;clear q hR3;go_wp2_with fail;go_loopg [14,15] 2 (fun f i _ wr=>FRdK w X C D (some ⟨bk,ok,none⟩) cap (y::r) T f i wr)
       case atStart=>exact hst
       case round=>
        clear hst;obtain ⟨k,p,h,s,hf,rfl,q,hR⟩:=hrel;have HF:=Hd hf;clear hf;by_cases hk:k<2
        .have h3:k=0\/k=1:=oA;rcases h3 with rfl|rfl
         .have hR2:Hid (T=lK p s):=by
           have e:gk=2:=(by have:=HF.out;omega);have h:=hR.out;rw [e] at h;exact Hd h
          clear hR;have cb:=qd wr w.heap.size C _ cap _ s q.cur q.below.size;have hCl:=q.cur.lt;go_wp2_with fail;refine cb.mono ?_;clear cb;rintro e W1 ⟨⟨xa,xn,xc⟩,rfl,ho1,hc1,ht1⟩;have q1:=q.turn hCw hc1 ht1;have f1:=q1.bD.free;have l1:W1.cell? ⟨D,6,none⟩=some (.slice h.d0.a h.d0.n h.d0.c):=q1.bD.cell rfl;have hT:=hR2.out;unfold lK at hT;replace ho1:=(ho1.lower (B':=C+1) hCl).cell1 (i:=6) q1.bD dcA (.slice xa xn xc);generalize (jS s).1=x at*;generalize (jS s).2=s' at*;have HT2:=Hd hT;clear hT hR2 q hc1 ht1 hCl;go_wp2_with fail;go_roundg 1
          case measure=>have:=HF.out;omega
          case rel=>
           refine ⟨0+1,{p with d0:=x},{h with d0:=⟨xa,xn,xc⟩},s',oA,gnA,q1.put hwD hXD 6 _ rfl ?_,Hd HT2.out⟩;have:=q1.own.cell1 (i:=6) q1.bD dcA dcA (.slice xa xn xc);exact ⟨this.kind,this.game,this.table,this.fmt,this.n0,this.n1,by first|exact ho1|exact this.d0,by first|exact ho1|exact this.d1,this.dr,this.act⟩
         .have hR2:Hid (T=ns p s):=by
           have e:gk=1:=(by have:=HF.out;omega);have h:=hR.out;rw [e] at h;exact Hd h
          clear hR;have cb:=qd wr w.heap.size C _ cap _ s q.cur q.below.size;have hCl:=q.cur.lt;go_wp2_with fail;refine cb.mono ?_;clear cb;rintro e W1 ⟨⟨xa,xn,xc⟩,rfl,ho1,hc1,ht1⟩;have q1:=q.turn hCw hc1 ht1;have f1:=q1.bD.free;have l1:W1.cell? ⟨D,7,none⟩=some (.slice h.d1.a h.d1.n h.d1.c):=q1.bD.cell rfl;have hT:=hR2.out;unfold ns at hT;replace ho1:=(ho1.lower (B':=C+1) hCl).cell1 (i:=7) q1.bD dcA (.slice xa xn xc);generalize (jS s).1=x at*;generalize (jS s).2=s' at*;have HT2:=Hd hT;clear hT hR2 q hc1 ht1 hCl;go_wp2_with fail;go_roundg 0
          case measure=>have:=HF.out;omega
          case rel=>
           refine ⟨1+1,{p with d1:=x},{h with d1:=⟨xa,xn,xc⟩},s',oA,gnA,q1.put hwD hXD 7 _ rfl ?_,Hd HT2.out⟩;have:=q1.own.cell1 (i:=7) q1.bD dcA dcA (.slice xa xn xc);exact ⟨this.kind,this.game,this.table,this.fmt,this.n0,this.n1,by first|exact ho1|exact this.d0,by first|exact ho1|exact this.d1,this.dr,this.act⟩
        .obtain rfl:k=2:=(by have:=HF.out;omega);have hR2:Hid (T=nt p s):=by
          have e:gk=0:=(by have:=HF.out;omega);have h:=hR.out;rw [e] at h;exact Hd h
         clear hR;have cb:=qd wr w.heap.size C _ cap _ s q.cur q.below.size;have hCl:=q.cur.lt;go_wp2_with fail;refine cb.mono ?_;clear cb;rintro e W1 ⟨⟨xa,xn,xc⟩,rfl,ho1,hc1,ht1⟩;have q1:=q.turn hCw hc1 ht1;have f1:=q1.bD.free;have l1:W1.cell? ⟨D,8,none⟩=some (.slice h.dr.a h.dr.n h.dr.c):=q1.bD.cell rfl;have hT:=hR2.out;unfold nt at hT;replace ho1:=(ho1.lower (B':=C+1) hCl).cell1 (i:=8) q1.bD dcA (.slice xa xn xc);generalize (jS s).1=x at*;generalize (jS s).2=s' at*;have HT2:=Hd hT;clear hT hR2 q hc1 ht1 hCl;go_wp2_with fail;go_meet;rw [HT2.out];refine ⟨{h with dr:=⟨xa,xn,xc⟩},q1.put hwD hXD 8 _ rfl ?_⟩;have:=q1.own.cell1 (i:=8) q1.bD dcA dcA (.slice xa xn xc);exact ⟨this.kind,this.game,this.table,this.fmt,this.n0,this.n1,this.d0,this.d1,ho1,this.act⟩
    .have hT:=HT.out;rw [if_neg hk2,if_neg hk1] at hT;have fin:MN w X C D (some ⟨bk,ok,none⟩) cap (y::r) T wc:=by
      rw [hT];exact ⟨dI,q⟩
     have FIN:=Hd fin;have t1:(kd==1)=false:=(by simpa using hk1);clear q hT fin;go_wp2_with fail;go_meet;exact FIN.out
   case rest=>
    obtain ⟨p,s⟩:=T;obtain ⟨h,q⟩:=hcut;dsimp only at q;clear HT HKD ck hi0 d0;obtain ⟨k,hk,hsk⟩:=q.cur;have l0:wc.cell? ⟨C,2,none⟩=some (.bool s.bad):=hk.blk.cell rfl;have l1:wc.cell? ⟨C,1,none⟩=some (.int .i64 (k:Int)):=hk.blk.cell rfl;have hl:s.b.length=n-k:=(by rw [hsk,ldA,hn]);have hkn:k<=n:=(by rw [<-hn];exact hk.le);have bX:=q.bX;have bD:=q.bD;have hbw:=q.below;have hown:=q.own;clear hk q;have bad:(s.bad=true\/k<n\/il p=false)->fY (y::r)=(jY,2):=fun e=>by
     rw [HR.out];unfold uW;dsimp only;rw [if_pos (by rw [hl];rcases e with e|e|e;exact .inl e;exact .inr (.inl oA);exact .inr (.inr e))]
    have good:¬(s.bad=true\/k<n\/il p=false)->fY (y::r)=(p,0):=fun e=>by
     rw [HR.out];unfold uW;dsimp only;rw [if_neg (by rw [hl];rintro (h|h|h);exact e (.inl h);exact e (.inr (.inl oA));exact e (.inr (.inr h)))]
    have HB:=Hd bad;have HGd:=Hd good;have HS:=Hd hsk;clear bad good hsk hl;cases hs:s.bad with
    |true=>
     rw [hs] at l0;have hr:=HB.out (.inl hs);go_wp2_with (refine aa rfl 40 aZ (.tmp 2) _ rfl rfl rfl bX rfl rfl rfA ?_);refine aU rfl aZ rfl (bX.setRow _) rfl rfl rfl ?_;unfold jt;rw [hr];exact ⟨dI,rfl,dV _ _,ag hbw hXw _⟩
    |false=>
     rw [hs] at l0;by_cases hn0:k<n
     .have hr:=HB.out (.inr (.inl hn0));have t1:((k:Int) !=(n:Int))=true:=soA;go_wp2_with (refine aa rfl 40 aZ (.tmp 2) _ rfl rfl rfl bX rfl rfl rfA ?_);refine aU rfl aZ rfl (bX.setRow _) rfl rfl rfl ?_;unfold jt;rw [hr];exact ⟨dI,rfl,dV _ _,ag hbw hXw _⟩
     .have t1:((k:Int) !=(n:Int))=false:=soA;have hN0:=Hd hn0;clear hn0 hkn;have cb:=En p h wc ((hown.lower (At hCw (XB C))).at);rw [aH] at cb;go_wp2_with (refine fJ rfA 40 aZ (.tmp 5) rfl rfl bD rfl ?_);refine cb.mono ?_;clear cb;rintro e W3 ⟨rfl,hb3⟩;have bX3:=bX.old hb3;have bD3:=bD.old hb3;have hbw3:=ae hbw hb3;cases hmay:il p with
      |false=>
       have hr:=HB.out (.inr (.inr hmay));go_wp2_with (refine aa rfl 40 aZ (.tmp 2) _ rfl rfl rfl bX3 rfl rfl rfA ?_);refine aU rfl aZ rfl (bX3.setRow _) rfl rfl rfl ?_;unfold jt;rw [hr];exact ⟨dI,rfl,dV _ _,ag hbw3 hXw _⟩
      |true=>
       have hr:=HGd.out (by rw [hs,hmay];rintro (h|h|h);cases h;exact hN0.out h;cases h);go_wp2_with (first|refine am rfl 40 aZ (.tmp 5) rfl rfl bD3 rfl ?_|refine aa rfl 40 aZ (.tmp 2) _ rfl rfl rfl bX3 rfl rfl rfA ?_);refine aU rfl aZ rfl (bX3.setRow _) rfl rfl rfl ?_;unfold jt;rw [hr];exact ⟨h,rfl,((hown.old hb3).row1 bX3 dcA dcA _).lower (At hCw (XB C)),ag hbw3 hXw _⟩
end
end Go.Proofs.YtioigihakjlopaaGreat

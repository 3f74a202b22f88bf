import Derived.Test.YtioigihakjlopaaGreatVR05
import Derived.Test.YtioigihakjlopaaGreatVR08
namespace Go.Proofs.YtioigihakjlopaaGreat
open Go.Proofs.Tryz
set_option linter.unusedVariables false
set_option linter.unusedSimpArgs false
set_option maxHeartbeats 16000000
set_option maxRecDepth 100000
section
open Go.RowKit
theorem uI (n i:Nat) (p:Int) (A:p=((2^(56-8*i):Nat):Int)):(n:Int)/p%256=U8 (jm n i):=by
 have e:U8 (jm n i)=(((n/2^(56-8*i))%2^8:Nat):Int):=by
  show (((BitVec.ofNat 8 (n/2^(56-8*i))).toNat:Nat):Int)=_;rw [Wi]
 rw [e,A];generalize 2^(56-8*i)=P;rw [Int.natCast_emod,Int.natCast_ediv];rfl
def Ei1 (w:As) (n:Nat) (f:Nat) (v i:Value) (wr:As):Prop:=
 ∃(t:Nat) (a:Lt) (c:Nat),f+t=8/\i= .int .i64 (t:Int)/\v= .slice a t c/\Own wr w.heap.size 5 1 a t c (((eY n).take t).map bv)/\Below w.heap.size w wr
theorem EA (n t:Nat) (h:t<8):(eY n).take (t+1)=(eY n).take t++ [jm n t]:=by
 rw [Vj (by rw [aM];exact h)];simp [eY]
theorem iX (n:Nat) (hn:n<18446744073709551616) (w:As):Calls prog 151 #[.int .u64 (n:Int)] w fun e w'=>∃a c,e= .returned (.slice a 8 c)/\Own w' w.heap.size 5 1 a 8 c ((eY n).map bv)/\Below w.heap.size w w':=by
 have U:(n:Int)<=18446744073709551615:=oA;have V:(0:Int)<=(n:Int):=oA;go_enter func151,ntmps151;go_wp2_with fail;go_loopg [3,4] 8 (Ei1 w n)
 case atStart=>exact ⟨0,none,0,oA,rfl,rfl,Own.nil _ _ _ _,VW _ _⟩
 case round=>
  obtain ⟨t,a,c,A,rfl,rfl,ho,C⟩:=hrel;have D:=Hd A;have N:=C.size;clear A;by_cases O:t<8
  .have HQ:=Hd (EA n t O);have J:=fun p=>uI n t p;have F:=Hd J;clear J;have R:t=0\/t=1\/t=2\/t=3\/t=4\/t=5\/t=6\/t=7:=oA;rcases R with rfl|rfl|rfl|rfl|rfl|rfl|rfl|rfl
   all_goals
    go_wp2_with (at_builtin;refine al rfl (.tmp 9) (.tmp 16) 22 rfl dS rfl (ho.alloc _) rfl (av.new' _ _ _ _ skA) rfA (by exact de _ rfl) mxA oA soA ?_)
    intro S T W B I
    have L:=(ho.alloc (.cells #[_] 5)).grown (C.alloc N _) (VU _) I soA
    clear I
    go_wp2_with fail
    go_roundg (gk-1)
    case rel=>
     have A:=D.out
     refine ⟨_,S,T,oA,gnA,rfl,?_,L⟩
     rw [HQ.out,VF]
     first
      |(have E:=F.out _ rfl;simp only [WG,XP,bv];rw [<-E];exact B)
      |(have E:=F.out 72057594037927936 rfl;have G:(n:Int)/72057594037927936=U8 (jm n 0):=by {rw [<-E];omega};simpa [bv,G] using B)
      |(have E:=F.out 1 rfl;have G:(n:Int)%256=U8 (jm n 7):=by {rw [<-E];omega};simpa [bv,G] using B)
    case measure=>have A:=D.out;omega
  .obtain rfl:t=8:=(by have:=D.out;omega);go_wp2_with fail;go_ret;exact ⟨a,c,rfl,by rw [VZ (by rw [aM];omega)] at ho;exact ho,C⟩
end
section
open Go.RowKit
structure RmJ (w:As) (H:Nat) (k li lo:Le) (ia:Lt) (ic:Nat) (oa:Lt) (oc:Nat) (wr:As):Prop where
 res:Blk wr H (vA 32 fun _=> .int .u8 0) 170
 blk:Blk wr (H+1) (vA 64 fun j=>bv (bkey k j)) 257
 inn:Mid wr H 5 ia li.length ic (li.map bv)
 out:Mid wr H 5 oa lo.length oc (lo.map bv)
 d:∀r,bI ia ic=some r->bI oa oc≠some r
 below:Below H w wr
section
variable {w:As} {H:Nat} {k li lo:Le} {ia oa:Lt} {ic oc:Nat} {wr wq:As}
theorem RmJ.le (h:RmJ w H k li lo ia ic oa oc wr):H<wr.heap.size:=h.res.lt
theorem RmJ.old (h:RmJ w H k li lo ia ic oa oc wr) (A:Below wr.heap.size wr wq):RmJ w H k li lo ia ic oa oc wq:=
 ⟨h.res.old A,h.blk.old A,h.inn.old A,h.out.old A,h.d,h.below.trans (A.mono (XH h.le))⟩
theorem RmJ.app1 (h:RmJ w H k li lo ia ic oa oc wr) {p:Le} {m:Nat} (F:p.length=m) {a':Lt} {c':Nat} (G:Mid wq H 5 a' (li.length+m) c' (li.map bv++p.map bv)) (B:wr.grownBy wq (bI ia ic))
  (I:bI a' c'=bI ia ic\/∃b,bI a' c'=some b/\wr.heap.size<=b):RmJ w H k (li++p) lo a' c' oa oc wq:=by
 have D:∀{b:Nat} {cs:AS} {t:TypeId},Blk wr b cs t->t≠5->bI ia ic≠some b:=fun J L e=>by
  obtain ⟨_,_,O,E⟩:=h.inn.lt e;exact Blk.ne E J (Vl L) rfl
 refine ⟨h.res.grown B (D h.res dcA),h.blk.grown B (D h.blk dcA),by rw [laA,VF,F];exact G,h.out.keep fun r A=>B.block r (h.out.lt A).2.1 fun e=>h.d r e.symm A,fun r A e=> ?_,h.below.grown B (XH h.le) fun b N=>(h.inn.lt N).1⟩;rcases I with C|⟨b,C,R⟩
 .rw [C] at A;exact h.d r A e
 .rw [C] at A;cases A;have:=(h.out.lt e).2.1;omega
theorem RmJ.app2 (h:RmJ w H k li lo ia ic oa oc wr) {p:Le} {m:Nat} (F:p.length=m) {a':Lt} {c':Nat} (G:Mid wq H 5 a' (lo.length+m) c' (lo.map bv++p.map bv)) (B:wr.grownBy wq (bI oa oc))
  (I:bI a' c'=bI oa oc\/∃b,bI a' c'=some b/\wr.heap.size<=b):RmJ w H k li (lo++p) ia ic a' c' wq:=by
 have D:∀{b:Nat} {cs:AS} {t:TypeId},Blk wr b cs t->t≠5->bI oa oc≠some b:=fun J L e=>by
  obtain ⟨_,_,O,E⟩:=h.out.lt e;exact Blk.ne E J (Vl L) rfl
 refine ⟨h.res.grown B (D h.res dcA),h.blk.grown B (D h.blk dcA),h.inn.keep fun r A=>B.block r (h.inn.lt A).2.1 fun e=>h.d r A e.symm,by rw [laA,VF,F];exact G,fun r A e=> ?_,h.below.grown B (XH h.le) fun b N=>(h.out.lt N).1⟩;rcases I with C|⟨b,C,R⟩
 .rw [C] at e;exact h.d r A e
 .rw [C] at e;cases e;have:=(h.inn.lt A).2.1;omega
end
theorem vE (f:Nat->UInt8) (x:UInt8) (t:Nat) (h:t<64):(tZ f x).take (t+1)=(tZ f x).take t++ [f t^^^x]:=by
 rw [Vj (by rw [cZ];exact h)];simp [tZ]
theorem fC (f:Nat->UInt8) (x:UInt8) (t:Nat) (h:t<=64):((tZ f x).take t).length=t:=by rw [ltA,cZ];omega
theorem aj.cellAt {w:As} {a:Lt} {l:Le} (h:aj w a l) (i:Nat) (hi:i<l.length):∃b o,a=some ⟨b,o,none⟩/\w.cell? ⟨b,o+i,none⟩=some (.int .u8 (U8 (l.getD i 0))):=by
 obtain ⟨b,o,e,hc⟩:=h.at oA;exact ⟨b,o,e,by rw [hc i hi];simp [hi]⟩
def Rm1 (w:As) (H G:Nat) (k:Le) (f:Nat) (i:Value) (wr:As):Prop:=
 ∃t:Nat,f+t=32/\i= .int .i64 (t:Int)/\Blk wr H (vA 32 fun _=> .int .u8 0) 170/\Blk wr (H+1) (vA 64 fun j=>if j<t then bv (dgb k j) else .int .u8 0) 257/\Blk wr G (dgA k) 170/\Below H w wr
def Rm2 (w:As) (H:Nat) (k:Le) (kn:Nat) (f:Nat) (i:Value) (wr:As):Prop:=
 ∃t:Nat,f+t=kn/\i= .int .i64 (t:Int)/\Blk wr H (vA 32 fun _=> .int .u8 0) 170/\Blk wr (H+1) (vA 64 fun j=>if j<t then bv (k.getD j 0) else .int .u8 0) 257/\Below H w wr
def Rm3 (w:As) (H:Nat) (k:Le) (f:Nat) (x y i:Value) (wr:As):Prop:=
 ∃(t:Nat) (ia:Lt) (ic:Nat) (oa:Lt) (oc:Nat),f+t=64/\i= .int .i64 (t:Int)/\x= .slice ia t ic/\y= .slice oa t oc/\RmJ w H k ((tZ (bkey k) 54).take t) ((tZ (bkey k) 92).take t) ia ic oa oc wr
def NH (w:As) (k b:Le) (e:Ending) (w':As):Prop:=e= .returned (.agg (mcA k b))/\Below w.heap.size w w'
attribute [local go_sem] my zw
theorem zh (k b:Le) (ka:Lt) (A kc:Nat) (ba:Lt) (bn bc:Nat) (w:As) (V:aj w ka k) (B0:k.length=A) (D4:A<140737488352000) (hb:aj w ba b) (B1:b.length=bn) (D5:bn<140737488352000):
  Calls prog 180 #[.slice ka A kc,.slice ba bn bc] w (NH w k b):=by
 have HK:=Hd B0;have HB:=Hd B1;obtain ⟨H,hH⟩:=At w.heap.size;have l:=Hd hH;have C5:=Hd hb;have C6:=Hd V;clear B0 B1 hb;have A9:=(Blk.new w (vA 32 fun _=> .int .u8 0) 170).alloc (.cells (vA 64 fun _=> .int .u8 0) 257);have A7:=Blk.new (w.alloc (.cells (vA 32 fun _=> .int .u8 0) 170)) (vA 64 fun _=> .int .u8 0) 257;simp only [Wm] at A7;rw [<-hH] at A9 A7;clear hH;have C7:=jq BI;go_enter func180,ntmps180;go_upto_region 2 with fail;clear C7;rw [<-l.out];refine ag (fun R=>Blk R H (vA 32 fun _=> .int .u8 0) 170/\Blk R (H+1) (vA 64 fun _=> .int .u8 0) 257/\aj R ka k/\Below H w R) ⟨A9,A7,(V.alloc _).alloc _,((l.out▸VW _ _:Below H w w).alloc (by rw [l.out];omega) _).alloc (by rw [l.out];simp) _⟩ ?_;clear A9 A7 V;rintro w1 ⟨L,B,V,I⟩;have C8:H+1<w1.heap.size:=B.lt;go_upto_if 15 with fail;go_cut [5] (fun v5 wx=>v5= .pointer (some ⟨H+1,0,none⟩)/\RmJ w H k [] [] none 0 none 0 wx)
 case first=>
  by_cases A6:64<A
  .have tI:decide ((64:Int)<(A:Int))=true:=soA;have W:decide (64<A)=true:=(by simpa using A6);go_wp2_with fail;refine (tJ k ka kc A _ V HK.out oA).mono ?_;rintro e w2 ⟨rfl,A1⟩;have B2:=L.old A1;have B3:=B.old A1;have B4:=I.trans (A1.mono oA);have C9:=A1.size;clear L B V I A1;go_upto_region 4 with (refine ae rfl 170 fX (.tmp 6) _ (cells:=dgA k) rfl rfl rfl (Blk.new _ _ _) (ay _ _) rfl (dF fun _ _=>rfl) ?_);obtain ⟨G,J⟩:=At w2.heap.size;have X:=Blk.new w2 (vA 32 fun _=> .int .u8 0) 170;have D6:H+1<G:=oA;rw [<-J] at X⊢;refine ag (fun R=>Rm1 w H G k 32 (.int .i64 0) R) ⟨0,oA,rfl,(B2.alloc _).setRow_other _ _ oA,((B3.alloc _).setRow_other _ _ oA).ofV fun j _=>by rw [VV oA],X.setRow _,ak (B4.alloc oA _) oA _⟩ ?_;clear B2 B3 B4 C9 X J tI W;intro w3 T;go_wp2_with fail;go_loopg [7] 32 (Rm1 w H G k)
   case atStart=>exact T
   case round=>
    clear T;obtain ⟨t,E,rfl,L,B,J,I⟩:=hrel;have N:=Hd E;clear E;by_cases S:t<32
    .have W:decide ((t:Int)<32)=true:=soA;have DO:(t:Int)<32:=oA;have D0:(t:Int)<64:=oA;have o:wr.cell? ⟨G,t,none⟩=some (.int .u8 (U8 (dgb k t))):=J.atV S rfl;have c1:=B.atV (show t<64 by omega) rfl;have f1:=B.free;go_wp2_with fail;clear o c1 f1;go_roundg (gk-1)
     case rel=>
      have E:=N.out;refine ⟨t+1,oA,gnA,L.other _ _ (by show H≠H+1;omega),(B.setV (show t<64 by omega) _).ofV fun j _=> ?_,J.other _ _ (by show G≠H+1;omega),I.setCell (by show H<=H+1;omega) _⟩;by_cases e:j=t
      .subst e;rw [Vz rfl,Vz oA];rfl
      .rw [VV e];by_cases F:j<t
       .rw [Vz F,Vz oA]
       .rw [VV F,VV oA]
     case measure=>have E:=N.out;omega
    .obtain rfl:t=32:=(by have:=N.out;omega);have W:decide (((32:Nat):Int)<32)=false:=skA;go_wp2_with fail;go_meet;refine ⟨rfl,L,B.ofV fun j hj=> ?_,Mid.nil' _ _ _,Mid.nil' _ _ _,fun r hr=>by simp [bI] at hr,I⟩;have e:bkey k j=if j<32 then dgb k j else 0:=(by rw [bkey,Vz (show 64<k.length by rw [HK.out];exact A6)]);rw [e];by_cases F:j<32
     .rw [Vz F,Vz F]
     .rw [VV F,VV F];rfl
  .have tI:decide ((64:Int)<(A:Int))=false:=soA;have W:decide (64<A)=false:=(by simpa using A6);have T:Rm2 w H k A A (.int .i64 0) w1:=⟨0,oA,rfl,L,B.ofV fun j _=>by rw [VV oA],I⟩;clear L B I V;go_wp2_with fail;go_loopg [8] A (Rm2 w H k A)
   case atStart=>exact T
   case round=>
    clear T;obtain ⟨t,E,rfl,L,B,I⟩:=hrel;have N:=Hd E;clear E;have D1:aj wr ka k:=C6.out.below (l.out▸I);by_cases S:t<A
    .have W:decide ((t:Int)<(A:Int))=true:=soA;have tN:decide (t<A)=true:=(by simpa using S);have D0:(t:Int)<64:=oA;obtain ⟨b1,o1,rfl,o⟩:=aj.cellAt D1 t (by rw [HK.out];exact S);have c1:=B.atV (show t<64 by omega) rfl;have f1:=B.free;go_wp2_with fail;clear o c1 f1;go_roundg (gk-1)
     case rel=>
      have E:=N.out;refine ⟨t+1,oA,gnA,L.other _ _ (by show H≠H+1;omega),(B.setV (show t<64 by omega) _).ofV fun j _=> ?_,I.setCell (by show H<=H+1;omega) _⟩;by_cases e:j=t
      .subst e;rw [Vz rfl,Vz oA];rfl
      .rw [VV e];by_cases F:j<t
       .rw [Vz F,Vz oA]
       .rw [VV F,VV oA]
     case measure=>have E:=N.out;omega
    .obtain rfl:t=A:=(by have:=N.out;omega);have W:decide ((t:Int)<(t:Int))=false:=skA;have tN:decide (t<t)=false:=skA;go_wp2_with fail;go_meet;refine ⟨rfl,L,B.ofV fun j hj=> ?_,Mid.nil' _ _ _,Mid.nil' _ _ _,fun r hr=>by simp [bI] at hr,I⟩;rw [bkey,VV (show ¬64<k.length by rw [HK.out];exact A6)];by_cases F:j<t
     .rw [Vz F]
     .rw [VV F,VG,WK (by rw [HK.out];omega)];rfl
 case rest=>
  obtain ⟨rfl,C⟩:=hcut;clear L B V I C8;go_wp2_with fail;have T:Rm3 w H k 64 (.slice none 0 0) (.slice none 0 0) (.int .i64 0) wc:=⟨0,none,0,none,0,oA,rfl,rfl,rfl,by simpa using C⟩;clear C;go_loopg [9,10,11] 64 (Rm3 w H k)
  case atStart=>exact T
  case round=>
   clear T;obtain ⟨t,ia,ic,oa,oc,E,rfl,rfl,rfl,C⟩:=hrel;have N:=Hd E;clear E;have d:=C.le;by_cases S:t<64
   .have W:decide ((t:Int)<64)=true:=soA;have DO:(t:Int)<64:=oA;have D2:=Hd (vE (bkey k) 54 t S);have D3:=Hd (vE (bkey k) 92 t S);have o:wr.cell? ⟨H+1,t,none⟩=some (.int .u8 (U8 (bkey k t))):=C.blk.atV S rfl;have f:=C.old ((VW wr.heap.size wr).alloc (VU _) (.cells #[Value.int .u8 (U8 (bkey k t^^^54))] 5));have D:=f.inn;rw [fC _ _ _ oA] at D;go_wp2_with (at_builtin;refine dq rfl (.tmp 43) (.tmp 48) 22 rfl dS rfl D rfl (av.new' _ _ _ _ skA) rfA (by exact de _ rfl) mxA oA soA ?_);intro q s y A2 A3 U;have O:=f.app1 (p:=[bkey k t^^^54]) (m:=1) (wq:=y) (a':=q) (c':=s) rfl (by rw [fC _ _ _ oA,WB];exact A2) A3 (by simpa using U);clear A2 A3 U f C D o d;have d:=O.le;have o:y.cell? ⟨H+1,t,none⟩=some (.int .u8 (U8 (bkey k t))):=O.blk.atV S rfl;have f:=O.old ((VW y.heap.size y).alloc (VU _) (.cells #[Value.int .u8 (U8 (bkey k t^^^92))] 5));have D:=f.out;rw [fC _ _ _ oA] at D;go_wp2_with (at_builtin;refine dq rfl (.tmp 50) (.tmp 55) 22 rfl dS rfl D rfl (av.new' _ _ _ _ skA) rfA (by exact de _ rfl) mxA oA soA ?_);intro a6 c6 w6 B5 B6 B7;have A4:=f.app2 (p:=[bkey k t^^^92]) (m:=1) (wq:=w6) (a':=a6) (c':=c6) rfl (by rw [fC _ _ _ oA,WB];exact B5) B6 (by simpa using B7);clear B5 B6 B7 f O D o d;go_wp2_with fail;go_roundg (gk-1)
    case rel=>
     have E:=N.out;exact ⟨t+1,q,s,a6,c6,oA,gnA,rfl,rfl,by rw [D2.out,D3.out];exact A4⟩
    case measure=>have E:=N.out;omega
   .obtain rfl:t=64:=(by have:=N.out;omega);have W:decide (((64:Nat):Int)<64)=false:=skA;have D:=C.inn;rw [fC _ _ _ oA] at D;have B9:=C5.out.below (l.out▸C.below);go_wp2_with (at_builtin;refine dq rfl (.tmp 57) (.tmp 58) 22 rfl dS rfl D rfl B9 (by rw [lmA,HB.out]) (cV _) mxA oA oA ?_);intro q s y A2 A3 U;have O:=C.app1 (p:=b) HB.out (by rw [fC _ _ _ oA];exact A2) A3 U;rw [VZ (by rw [cZ];omega),VZ (by rw [cZ];omega)] at O;change RmJ w H k (hin k b) _ q s oa oc y at O;have A0:(hin k b).length=64+bn:=(by rw [hin,laA,cZ,HB.out]);have C4:=Hd A0;clear A2 A3 U C D B9 A0;have U:=O.inn.read;go_wp2_with fail;refine (tJ (hin k b) q s (64+bn) _ U C4.out oA).mono ?_;rintro e w6 ⟨rfl,CK⟩;have A4:=O.old CK;clear O CK U;have d:=A4.le;go_upto_region 20 with (refine ae rfl 170 fX (.tmp 12) _ (cells:=dgA (hin k b)) rfl rfl rfl (Blk.new _ _ _) (ay _ _) rfl (dF fun _ _=>rfl) ?_);obtain ⟨G,J⟩:=At w6.heap.size;have X:=Blk.new w6 (vA 32 fun _=> .int .u8 0) 170;have CW:=ak ((VW w6.heap.size w6).alloc (VU _) (.cells (vA 32 fun _=> .int .u8 0) 170)) (VM J.symm) (dgA (hin k b));rw [<-J] at X⊢;refine ag (fun R=>RmJ w H k (hin k b) (tZ (bkey k) 92) q s oa oc R/\Blk R G (dgA (hin k b)) 170) ⟨A4.old CW,X.setRow _⟩ ?_;clear A4 X J CW d;rintro w7 ⟨C,J⟩;have q2:=sU G;have D:=C.out;rw [cZ] at D;have d:=C.le;go_wp2_with (at_builtin;refine dq rfl (.tmp 62) (.tmp 63) 22 rfl dS rfl D rfl (sF J) (by rw [lmA,dj]) (cV _) mxA oA oA ?_);intro a8 c8 w8 C0 C1 A5;have A8:=C.app2 (p:=dgl (hin k b)) (dj _) (by rw [cZ];exact C0) C1 A5;change RmJ w H k (hin k b) (we k b) q s a8 c8 w8 at A8;have A0:(we k b).length=64+32:=(by rw [we,laA,cZ,dj]);have C3:=Hd A0;clear C0 C1 A5 C J D A0 d q2;have A5:=A8.out.read;go_wp2_with fail;refine (tJ (we k b) a8 c8 (64+32) _ A5 C3.out oA).mono ?_;rintro e w9 ⟨rfl,C2⟩;have BY:=A8.old C2;clear A8 C2 A5;go_wp2_with (refine ae rfl 170 fX (.tmp 4) _ (cells:=dgA (we k b)) rfl rfl rfl BY.res (ay _ _) (ay _ _) (dF fun _ _=>rfl) ?_)
    exact cT rfl fX rfl (BY.res.setRow _) (ay _ _) rfl ⟨rfl,l.out▸ak BY.below (VU _) _⟩
end
section
open Go.RowKit
def Eg1 (w:As) (H n:Nat) (f:Nat) (i:Value) (wr:As):Prop:=
 ∃t:Nat,f+t=8/\i= .int .i64 (t:Int)/\Blk wr H (vA 8 fun j=>if j<t then bv (jm n j) else .int .u8 0) 260/\Below H w wr
theorem Lx:(Tryz.prog.info? 260).bind (·.zero)=some (.agg (vA 8 fun _=> .int .u8 0)):=by kernel_rfl
theorem Ez (n t j:Nat) (x:Int) (h:x=U8 (jm n t)):(if j=t then Value.int .u8 x else if j<t then bv (jm n j) else .int .u8 0)=if j<t+1 then bv (jm n j) else .int .u8 0:=by
 subst h;by_cases e:j=t
 .subst e;rw [Vz rfl,Vz oA];rfl
 .rw [VV e];by_cases A:j<t
  .rw [Vz A,Vz oA]
  .rw [VV A,VV oA]
theorem ww (n:Nat) (hn:n<18446744073709551616) (w:As):Calls prog 166 #[.int .u64 (n:Int)] w fun e w'=>∃g,e= .returned (.slice (some ⟨g,0,none⟩) 8 8)/\w.heap.size<=g/\aj w' (some ⟨g,0,none⟩) (eY n)/\Below w.heap.size w w':=by
 have T:(n:Int)<=18446744073709551615:=oA;have U:(0:Int)<=(n:Int):=oA;obtain ⟨H,A⟩:=At w.heap.size;rw [<-A];have F:=Blk.new w (vA 8 fun _=> .int .u8 0) 260;have L:=jq Lx;go_enter func166,ntmps166;go_upto_region 2 with fail;clear L;rw [<-A] at F⊢;refine ag (fun O=>Eg1 w H n 8 (.int .i64 0) O) ⟨0,oA,rfl,F.ofV fun j _=>by rw [VV oA],by rw [A];exact cL⟩ ?_;have W:=Hd A;clear F A;intro w1 I;go_wp2_with fail;go_loopg [4,5] 8 (fun g _ i wr=>Eg1 w H n g i wr)
 case atStart=>exact I
 case round=>
  clear I;obtain ⟨t,B,rfl,C,J⟩:=hrel;have G:=Hd B;clear B;by_cases X:t<8
  .have HE:=Hd fun p=>uI n t p;have f0:=C.free;have R:t=0\/t=1\/t=2\/t=3\/t=4\/t=5\/t=6\/t=7:=oA;rcases R with rfl|rfl|rfl|rfl|rfl|rfl|rfl|rfl
   all_goals
    have S:=C.atV oA rfl
    go_wp2_with fail
    clear S f0
    go_roundg (gk-1)
    case rel=>
     have B:=G.out
     refine ⟨_,oA,gnA,(C.setV oA _).ofV fun j _=>Ez n _ j _ ?_,J.setCell (by show H<=H;omega) _⟩
     first
      |exact HE.out _ rfl
      |(have E:=HE.out 72057594037927936 rfl;rw [<-E];omega)
      |(have E:=HE.out 1 rfl;rw [<-E];omega)
    case measure=>have B:=G.out;omega
  .obtain rfl:t=8:=(by have:=G.out;omega);have V:=Nr H;go_wp2_with fail;go_ret;refine ⟨H,rfl,VU _,?_,J⟩;have N:=C.ofV (g:=fun j=>bv (jm n j)) fun j D=>Vz D;refine av.mk fun j D=> ?_;rw [lmA,aM] at D;rw [VN,N.atV D rfl];simp [eY]
def Re1 (w:As) (x y:Le) (f:Nat) (i:Value) (wr:As):Prop:=
 ∃t nq:Nat,f+t=x.length/\i= .int .i64 (t:Int)/\x.take t=y.take t/\w.drewN nq=wr
def EqP (w:As) (x y:Le) (e:Ending) (w':As):Prop:=e= .returned (.bool (decide (x=y)))/\Below w.heap.size w w'
theorem Ax (x y:Le) (W X:Lt) (A xc C s:Nat) (w:As) (hx:aj w W x) (O:x.length=A) (A0:A<=140737488351232) (hy:aj w X y) (R:y.length=C) (A1:C<=140737488351232):
  Calls prog 178 #[.slice W A xc,.slice X C s] w (EqP w x y):=by
 have B:=Hd O;have F:=Hd R;clear O R;by_cases G:A=C
 .subst G;go_enter func178,ntmps178;go_wp2_with fail;go_loopg [5] A (Re1 w x y)
  case atStart=>exact ⟨0,0,by have:=B.out;omega,rfl,skA,rfl⟩
  case round=>
   obtain ⟨t,nq,d,rfl,S,rfl⟩:=hrel;have J:=Hd d;have f:=Hd S;clear d S;by_cases D:t<A
   .have tt:decide ((t:Int)<(A:Int))=true:=soA;have tN:decide (t<A)=true:=(by simpa using D);have A2:(t:Int)<(A:Int):=oA;obtain ⟨b1,o1,rfl,c1⟩:=aj.cellAt hx t (by rw [B.out];exact D);obtain ⟨b2,o2,rfl,c2⟩:=aj.cellAt hy t (by rw [F.out];exact D);have T:x.take (t+1)=x.take t++ [x.getD t 0]:=by
     rw [Vj (by rw [B.out];exact D)];simp [B.out,D]
    have U:y.take (t+1)=y.take t++ [y.getD t 0]:=by
     rw [Vj (by rw [F.out];exact D)];simp [F.out,D]
    have m:=Hd T;have o:=Hd U;obtain ⟨p,L⟩:=At (x.getD t 0);obtain ⟨q,N⟩:=At (y.getD t 0);rw [<-L] at c1;rw [<-N] at c2;have j:=Hd L;have l:=Hd N;clear T U L N;by_cases I:p=q
    .have hb:(U8 p==U8 q)=true:=(by rw [EG];simpa using I);have V:(U8 p !=U8 q)=false:=(by rw [bne,hb];rfl);go_upto_region 6 with fail;go_quiet (fail);go_wp2_with fail;go_roundg (gk-1)
     case rel=>exact ⟨t+1,_,by have:=J.out;have:=B.out;omega,gnA,by rw [m.out,o.out,f.out,<-j.out,<-l.out,I],rfl⟩
     case measure=>have:=J.out;have:=B.out;omega
    .have hb:(U8 p==U8 q)=false:=(by rw [EG];simpa using I);have V:(U8 p !=U8 q)=true:=(by rw [bne,hb];rfl);go_upto_region 6 with fail;go_quiet (fail);go_wp2_with fail;go_ret;have E:x≠y:=fun e=>I (by rw [j.out,l.out,e]);exact ⟨by rw [VO E];rfl,bS (bS (VW _ _) _) _⟩
   .obtain rfl:t=A:=(by have:=J.out;have:=B.out;omega);have tt:decide ((t:Int)<(t:Int))=false:=skA;have tN:decide (t<t)=false:=skA;go_wp2_with fail;go_ret;have E:x=y:=by
     have:=f.out;rwa [VZ (by rw [B.out];omega),VZ (by rw [F.out];omega)] at this
    exact ⟨by rw [VK E];rfl,bS (VW _ _) _⟩
 .have hb:((A:Int)==(C:Int))=false:=soA;have V:((A:Int) !=(C:Int))=true:=soA;have A3:(A==C)=false:=(by simpa using G);have A4:(A !=C)=true:=(by simpa using G);have E:x≠y:=fun e=>G (by rw [<-B.out,<-F.out,e]);have r:=Hd E;clear E;go_enter func178,ntmps178;go_wp2_with fail;go_ret;exact ⟨by rw [VO r.out];rfl,VW _ _⟩
theorem av.keepB {w w':As} {g o:Nat} {vs:AT} (h:av w (some ⟨g,o,none⟩) vs) (A:w'.heap[g]? =w.heap[g]?):av w' (some ⟨g,o,none⟩) vs:=by
 intro i hi;obtain ⟨b,B,e,hc⟩:=h i hi;cases e;refine ⟨g,o,rfl,?_⟩;unfold World.cell? at hc⊢;simp only at hc⊢;rw [A];exact hc
def ry (name:Le) (nl n:Nat):Le:=eY nl++name++eY n
structure MkI (w:As) (H M:Nat) (k fed:Le) (hi ho:Nat) (ha:Lt) (hn hc:Nat) (a2:Lt) (n2 c2:Nat) (P g1 g2 g3 cN nn Z Y:Nat) (name:Le) (n:Nat) (wr:As):Prop where
 res:Blk wr H (vA 32 fun _=> .int .u8 0) 170
 mac:rp wr (H+1) M k fed hi ho ha hn hc a2 n2 c2
 row:∀r,bI ha hc=some r->r<Z\/Y<=r
 hi:hi<Z
 pcs:Blk wr P #[.slice (some ⟨g1,0,none⟩) 8 8,.slice (some ⟨g2,0,none⟩) nn cN,.slice (some ⟨g3,0,none⟩) 8 8] 22
 b1:aj wr (some ⟨g1,0,none⟩) (eY nn)
 b2:aj wr (some ⟨g2,0,none⟩) name
 b3:aj wr (some ⟨g3,0,none⟩) (eY n)
 o1:Z<=g1/\g1<Y
 o2:Z<=g2/\g2<Y
 o3:Z<=g3/\g3<Y
 oP:Z<=P/\P<Y
 le:Y<=wr.heap.size
 below:Below H w wr
section
variable {w:As} {H M:Nat} {k fed:Le} {hi ho:Nat} {ha:Lt} {hn hc:Nat} {a2:Lt} {n2 c2:Nat} {P g1 g2 g3 cN nn Z Y:Nat} {name:Le} {n:Nat} {wr wq:As}
theorem MkI.write (h:MkI w H M k fed hi ho ha hn hc a2 n2 c2 P g1 g2 g3 cN nn Z Y name n wr) {p:Le} {a':Lt} {E c':Nat} (I:rp wq (H+1) M k (fed++p) hi ho a' E c' a2 n2 c2) (D:pG wr wq hi (bI ha hc))
  (J:bI a' c'=none\/bI a' c'=bI ha hc\/∃b,bI a' c'=some b/\wr.heap.size<=b):MkI w H M k (fed++p) hi ho a' E c' a2 n2 c2 P g1 g2 g3 cN nn Z Y name n wq:=by
 have F:=h.le;have G:=h.hi;have C:∀g,Z<=g->g<Y->wq.heap[g]? =wr.heap[g]? :=fun g B L=>D.block g oA oA fun e=>by
  have:=h.row g e;omega
 refine ⟨D.blk h.res (by have:=h.mac.leI;omega) fun e=>by have:=(h.mac.inn.row.lt e).1;omega,I,fun r A=> ?_,G,?_,h.b1.keepB (C _ h.o1.1 h.o1.2),h.b2.keepB (C _ h.o2.1 h.o2.2),h.b3.keepB (C _ h.o3.1 h.o3.2),h.o1,h.o2,h.o3,h.oP,Vd F D.size,h.below.trans (D.below (by have:=h.mac.leI;omega) (fun b N=>by have:=(h.mac.inn.row.lt N).1;omega) (by have:=h.res.lt;omega))⟩
 .rcases J with B|B|⟨b,B,L⟩
  .rw [B] at A;cases A
  .rw [B] at A;exact h.row r A
  .rw [B] at A;cases A;omega
 .have e:=h.pcs;unfold Blk at e⊢;rw [C _ h.oP.1 h.oP.2];exact e
end
def FL (nn:Nat) (name:Le) (n t:Nat):Le:=if t=0 then eY nn else if t=1 then name else eY n
def Hz (nn:Nat) (name:Le) (n t:Nat):Le:=((List.range t).map (FL nn name n)).flatten
theorem DW (nn:Nat) (name:Le) (n t:Nat):Hz nn name n (t+1)=Hz nn name n t++FL nn name n t:=by simp [Hz,YT]
theorem Gv (nn:Nat) (name:Le) (n:Nat):Hz nn name n 3=ry name nn n:=by
 simp [Hz,ry,FL,YT]
def Mk3 (w:As) (H M:Nat) (k:Le) (hi ho:Nat) (a2:Lt) (n2 c2:Nat) (P g1 g2 g3 cN nn Z Y:Nat) (name:Le) (n:Nat) (f:Nat) (i:Value) (wr:As):Prop:=
 ∃(t:Nat) (ha:Lt) (hn hc:Nat),f+t=3/\i= .int .i64 (t:Int)/\MkI w H M k (Hz nn name n t) hi ho ha hn hc a2 n2 c2 P g1 g2 g3 cN nn Z Y name n wr
def wQ (w:As) (k b:Le) (e:Ending) (w':As):Prop:=e= .returned (.agg (mcA k b))/\Below w.heap.size w w'
theorem FT (k:Le) (ka:Lt) (l kc:Nat) (s:ByteArray) (n:Nat) (w:As) (hk:aj w ka k) (A7:k.length=l) (C2:l<140737488352000) (B3:s.size<400000000000) (hn:n<18446744073709551616):
  Calls prog 139 #[.slice ka l kc,.string s,.int .u64 (n:Int)] w (wQ w k (ry (kL s) s.size n)):=by
 have HK:=Hd A7;obtain ⟨H,hH⟩:=At w.heap.size;have m:=Hd hH;have o:=Blk.new w (vA 32 fun _=> .int .u8 0) 170;rw [<-hH] at o;clear A7 hH;go_enter func139,ntmps139;go_wp2_with fail;refine (zA k ka l kc _ (hk.alloc _) HK.out oA).mono ?_;rintro e w1 ⟨M,hi,ho,ha,G,hc,a2,n2,c2,rfl,L,I⟩;simp only [Wm] at L I;rw [<-m.out] at L I;go_wp2_with fail;have B4:(s.size:Int)<=400000000000:=oA;refine (ww s.size oA _).mono ?_;rintro e w2 ⟨g1,rfl,B5,p,q⟩;go_wp2_with (refine pJ rfl 9 22 (.tmp 19) rfl underlying9 underlying22 underlying5 rfl ?_;intro E w3 y d A3);refine (ww n hn _).mono ?_;rintro e T ⟨g3,rfl,B6,A0,O⟩;obtain ⟨g2,A8⟩:=At w2.heap.size;rw [<-A8] at y A3⊢;have B7:=q.size;have B9:=d.size;have CK:=O.size;have CW:=Wm w (.cells (vA 32 fun _=> .int .u8 0) 170);have f:=I.size;simp only [Wm] at f;have A9:H=w.heap.size:=m.out;have hz:=L.inn.hash.lt;have hP:=Blk.new T #[.slice (some ⟨g1,0,none⟩) 8 8,.slice (some ⟨g2,0,none⟩) s.size E,.slice (some ⟨g3,0,none⟩) 8 8] 22;obtain ⟨P,j⟩:=At T.heap.size;have B1:g1<w2.heap.size:=av.lt p (by rw [lmA,aM];omega);have B2:g3<T.heap.size:=av.lt A0 (by rw [lmA,aM];omega);have A4:=aa q (aa d O);have X:=A4.alloc (show w1.heap.size<=T.heap.size by omega) (.cells #[.slice (some ⟨g1,0,none⟩) 8 8,.slice (some ⟨g2,0,none⟩) s.size E,.slice (some ⟨g3,0,none⟩) 8 8] 22);have A5:Below H w w1:=(((VW w.heap.size w).alloc (VU _) _).mono (VM A9)).trans (I.mono oA);have A6:=(o.below I oA).old X;have J:Mk3 w H M k hi ho a2 n2 c2 P g1 g2 g3 E s.size w1.heap.size (P+1) (kL s) n 3 (.int .i64 0) (T.alloc (.cells #[.slice (some ⟨g1,0,none⟩) 8 8,.slice (some ⟨g2,0,none⟩) s.size E,.slice (some ⟨g3,0,none⟩) 8 8] 22)):=
  ⟨0,ha,G,hc,oA,rfl,⟨A6,L.old X,fun r hr=> .inl (L.inn.row.lt hr).2.1,hz,j▸hP,((p.below d).below O).alloc _,(y.below O).alloc _,A0.alloc _,⟨oA,oA⟩,⟨oA,oA⟩,⟨oA,oA⟩,⟨oA,oA⟩,by rw [Wm,j];omega,A5.trans (X.mono oA)⟩⟩
 have A1:=Hd B3;clear f B7 B9 CK CW hz A3 B1 B2 A4 X A5 A6 hP p y A0 I q d O L o hk B5 A8 B6 B4;obtain ⟨Z,hZ⟩:=At w1.heap.size;rw [<-hZ] at J;have BY:=Hd j;clear hZ j A9;go_wp2_with fail;rw [<-BY.out,<-m.out];clear BY;refine kr (Mk3 w H M k hi ho a2 n2 c2 P g1 g2 g3 E s.size Z (P+1) (kL s) n 3 (.int .i64 0)) J ?_;clear J;intro w6 J;go_loopg [25] 3 (Mk3 w H M k hi ho a2 n2 c2 P g1 g2 g3 E s.size Z (P+1) (kL s) n)
 case atStart=>exact J
 case round=>
  clear J;obtain ⟨t,ha,G,hc,hf,rfl,A⟩:=hrel;have F:=Hd hf;clear hf;by_cases ht:t<3
  .have h3:t=0\/t=1\/t=2:=oA;have HS:=Hd (DW s.size (kL s) n t);have N:(Hz s.size (kL s) n t).length<=400000000008:=by
    have C0:=A1.out;have f:=cJ s;rcases h3 with rfl|rfl|rfl<;>simp [Hz,FL,aM,YT]<;>omega
   have R:=Hd N;clear N;rcases h3 with rfl|rfl|rfl
   .have c0:wr.cell? ⟨P,0,none⟩=some (.slice (some ⟨g1,0,none⟩) 8 8):=A.pcs.cell rfl;go_wp2_with fail;clear c0;refine (lB (H+1) M k _ (eY s.size) hi ho ha G hc a2 n2 c2 _ 8 8 _ A.mac A.b1 (aM _) (by have:=R.out;omega)).mono ?_;rintro e w7 ⟨U,V,W,rfl,C,B,D⟩;have S:=A.write C B D;clear C B D A;go_wp2_with fail;go_roundg (gk-1)
    case rel=>exact ⟨0+1,U,V,W,by have:=F.out;omega,gnA,by rw [HS.out];exact S⟩
    case measure=>have:=F.out;omega
   .have c0:wr.cell? ⟨P,1,none⟩=some (.slice (some ⟨g2,0,none⟩) s.size E):=A.pcs.cell rfl;go_wp2_with fail;clear c0;refine (lB (H+1) M k _ (kL s) hi ho ha G hc a2 n2 c2 _ s.size E _ A.mac A.b2 (cJ _) (by have:=R.out;have:=A1.out;omega)).mono ?_;rintro e w7 ⟨U,V,W,rfl,C,B,D⟩;have S:=A.write C B D;clear C B D A;go_wp2_with fail;go_roundg (gk-1)
    case rel=>exact ⟨1+1,U,V,W,by have:=F.out;omega,gnA,by rw [HS.out];exact S⟩
    case measure=>have:=F.out;omega
   .have c0:wr.cell? ⟨P,2,none⟩=some (.slice (some ⟨g3,0,none⟩) 8 8):=A.pcs.cell rfl;go_wp2_with fail;clear c0;refine (lB (H+1) M k _ (eY n) hi ho ha G hc a2 n2 c2 _ 8 8 _ A.mac A.b3 (aM _) (by have:=R.out;omega)).mono ?_;rintro e w7 ⟨U,V,W,rfl,C,B,D⟩;have S:=A.write C B D;clear C B D A;go_wp2_with fail;go_roundg (gk-1)
    case rel=>exact ⟨2+1,U,V,W,by have:=F.out;omega,gnA,by rw [HS.out];exact S⟩
    case measure=>have:=F.out;omega
  .obtain rfl:t=3:=(by have:=F.out;omega);rw [Gv] at A;have N:(ry (kL s) s.size n).length<=400000000016:=by
    have C0:=A1.out;have f:=cJ s;simp [ry,aM];omega
   have R:=Hd N;clear N;go_wp2_with fail;refine (zz (H+1) M k _ hi ho ha G hc a2 n2 c2 _ A.mac (by have:=R.out;omega)).mono ?_;rintro e w7 ⟨rfl,A2⟩;have B0:=A.res.old A2;have C1:=A.below.trans (A2.mono (by have:=A.res.lt;omega));clear A A2;go_wp2_with (refine ae rfl 170 fX (.tmp 6) _ (cells:=mcA k (ry (kL s) s.size n)) rfl rfl rfl B0 (ay _ _) (ay _ _) (dF fun _ _=>rfl) ?_);exact cT rfl fX rfl (B0.setRow _) (ay _ _) rfl ⟨rfl,m.out▸ak C1 (VU _) _⟩
def Ry1 (w:As) (H:Nat) (s:ByteArray) (f:Nat) (v i:Value) (wr:As):Prop:=
 ∃(t:Nat) (a:Lt) (c:Nat),f+t=s.size/\i= .int .i64 (t:Int)/\v= .slice a (8+t) c/\Blk wr H (vA 32 fun _=> .int .u8 0) 170/\Own wr (H+1) 5 1 a (8+t) c ((eY s.size++(kL s).take t).map bv)/\Below H w wr
theorem Cj (s:ByteArray) (t:Nat) (h:t<s.size):(kL s).take (t+1)=(kL s).take t++ [s[t]]:=by
 rw [Vj (by rw [cJ];exact h)];rfl
theorem zi (k:Le) (U:Lt) (J kc:Nat) (s:ByteArray) (n:Nat) (w:As) (hk:aj w U k) (j:k.length=J) (A6:J<140737488352000) (A7:s.size<400000000000) (hn:n<18446744073709551616):
  Calls prog 155 #[.slice U J kc,.string s,.int .u64 (n:Int)] w (wQ w k (ry (kL s) s.size n)):=by
 have HK:=Hd j;obtain ⟨H,V⟩:=At w.heap.size;have E:=Hd V;have O:=Blk.new w (vA 32 fun _=> .int .u8 0) 170;rw [<-V] at O;have A3:=Hd hk;clear j V hk;have A8:(s.size:Int)<=400000000000:=oA;go_enter func155,ntmps155;go_wp2_with fail;refine (iX s.size oA _).mono ?_;rintro e w1 ⟨a,c,rfl,ho,B⟩;simp only [Wm] at ho B;rw [<-E.out] at ho B;have l:=O.below B oA;have m:Below H w w1:=(((VW w.heap.size w).alloc (VU _) _).mono (VM E.out)).trans (B.mono oA);have o:Ry1 w H s s.size (.slice a 8 c) (.int .i64 0) w1:=⟨0,a,c,oA,rfl,rfl,l,by simpa using ho,m⟩;clear O ho B l m;go_wp2_with fail;rw [<-E.out];go_loopg [7,8] s.size (Ry1 w H s)
 case atStart=>exact o
 case round=>
  clear o;obtain ⟨t,a,c,hf,rfl,rfl,L,ho,W⟩:=hrel;have X:=Hd hf;clear hf;have R:=L.lt;by_cases ht:t<s.size
  .have HS:=Hd (Cj s t ht);have tt:decide ((t:Int)<(s.size:Int))=true:=soA;have A9:(t:Int)<(s.size:Int):=oA;go_wp2_with (at_builtin;refine al rfl (.tmp 19) (.tmp 23) 22 rfl dS rfl (ho.alloc _) rfl (av.new' _ _ _ _ skA) rfA (by exact de _ rfl) mxA oA soA ?_);intro N d w4 F A;have C:=(ho.alloc (.cells #[_] 5)).grown (W.alloc (XH R) _) oA A soA;have D:=(L.alloc (.cells #[_] 5)).grown A fun e=>by
    have:=(ZN ho _ e).1;omega
   clear A;go_wp2_with fail;go_roundg (gk-1)
   case rel=>
    refine ⟨t+1,N,d,by have:=X.out;omega,gnA,rfl,D,?_,C⟩;rw [HS.out];simpa [bv,U8,WM] using F
   case measure=>have:=X.out;omega
  .obtain rfl:t=s.size:=(by have:=X.out;omega);rw [VZ (by rw [cJ];omega)] at ho;go_wp2_with fail;refine (iX n hn _).mono ?_;rintro e w2 ⟨a2,c2,rfl,p,G⟩;have q:=p.row;have I:=ho.old G;have S:=L.old G;have r:=W.trans (G.mono (XH R));have A2:=S.lt;clear p ho L W G;go_wp2_with (at_builtin;refine al rfl (.tmp 26) (.tmp 28) 22 rfl dS rfl I rfl q (by rw [lmA,aM]) (cV _) mxA oA oA ?_);intro N d w4 F A;have C:=I.grown r oA A oA;have D:=S.grown A fun e=>by
    have:=(ZN I _ e).1;omega
   have y:aj w4 N (ry (kL s) s.size n):=by
    have:=F.row;unfold aj ry;rw [VF];exact this
   have f:(ry (kL s) s.size n).length=8+s.size+8:=(by simp [ry,aM,cJ];omega);have A4:=Hd f;have A0:=A3.out.below (E.out▸C);clear F A I S r q f R A2;go_wp2_with fail;refine (zh k _ U J kc N _ d _ A0 HK.out oA y A4.out oA).mono ?_;rintro e w5 ⟨rfl,T⟩;have A1:=D.old T;have A5:=C.trans (T.mono (by have:=D.lt;omega));clear D C T y A0;go_wp2_with (refine ae rfl 170 fX (.tmp 6) _ (cells:=mcA k (ry (kL s) s.size n)) rfl rfl rfl A1 (ay _ _) (ay _ _) (dF fun _ _=>rfl) ?_);exact cT rfl fX rfl (A1.setRow _) (ay _ _) rfl ⟨rfl,E.out▸ak A5 (VU _) _⟩
end
section
open Go.RowKit
def xt (x:BitVec 8):BitVec 8:=(x<<<1)^^^((x>>>7)*27#8)
def xts:Nat->BitVec 8->BitVec 8
 |0,x=>x
 |k+1,x=>xt (xts k x)
def ru (x y:BitVec 8):Nat->BitVec 8
 |0=>0#8
 |k+1=>ru x y k^^^(if y.getLsbD k then xts k x else 0#8)
def tim (x y:BitVec 8):BitVec 8:=ru x y 8
theorem BM:∀x:BitVec 8,xt x=(x<<<1)^^^(if x.getLsbD 7 then 27#8 else 0#8):=by decide+kernel
theorem sY (a b c d:BitVec 8):(a^^^b)^^^(c^^^d)=(a^^^c)^^^(b^^^d):=by
 rw [Xg,Xg,<-Xg b c d,BitVec.xor_comm b c,Xg c b d]
theorem Hx (p q:Bool) (c:BitVec 8):(if (p^^q) then c else 0#8)=(if p then c else 0#8)^^^(if q then c else 0#8):=by
 cases p<;>cases q<;>simp
theorem Kd (p:Bool) (c d:BitVec 8):(if p then c^^^d else 0#8)=(if p then c else 0#8)^^^(if p then d else 0#8):=by
 cases p<;>simp
theorem Lz (a b:BitVec 8):xt (a^^^b)=xt a^^^xt b:=by
 rw [BM,BM,BM,BitVec.getLsbD_xor,Hx,BitVec.shiftLeft_xor_distrib,sY]
theorem BL (a b:BitVec 8):∀k,xts k (a^^^b)=xts k a^^^xts k b
 |0=>rfl
 |k+1=>by rw [xts,BL a b k,Lz];rfl
theorem yN (x y z:BitVec 8):∀k,ru x (y^^^z) k=ru x y k^^^ru x z k
 |0=>by simp [ru]
 |k+1=>by rw [ru,yN x y z k,BitVec.getLsbD_xor,Hx,sY];rfl
theorem mL (x y z:BitVec 8):∀k,ru (x^^^y) z k=ru x z k^^^ru y z k
 |0=>by simp [ru]
 |k+1=>by rw [ru,mL x y z k,BL,Kd,sY];rfl
theorem nB (x y z:BitVec 8):tim x (y^^^z)=tim x y^^^tim x z:=yN x y z 8
theorem gq (x y z:BitVec 8):tim (x^^^y) z=tim x z^^^tim y z:=mL x y z 8
def kV (x:BitVec 8) (k:Nat):BitVec 8:=if x.getLsbD k then 1#8<<<k else 0#8
theorem JA:∀x:BitVec 8,kV x 0^^^kV x 1^^^kV x 2^^^kV x 3^^^kV x 4^^^kV x 5^^^kV x 6^^^kV x 7=x:=by decide+kernel
theorem ri {f:BitVec 8->BitVec 8} (A:∀a b,f (a^^^b)=f a^^^f b):f 0#8=0#8:=by
 have h:=A 0#8 0#8;have e:(0#8^^^0#8)=0#8:=rfl;rw [e] at h;have:=WS (·^^^f 0#8) h;simpa [Xg] using this.symm
theorem pX {f g:BitVec 8->BitVec 8} (A:∀a b,f (a^^^b)=f a^^^f b) (B:∀a b,g (a^^^b)=g a^^^g b) (h:∀k,k<8->f (1#8<<<k)=g (1#8<<<k)) (x:BitVec 8):f x=g x:=by
 have s:∀k,k<8->f (kV x k)=g (kV x k):=fun k C=>by
  unfold kV;split
  .exact h k C
  .rw [ri A,ri B]
 rw [<-JA x];simp only [A,B,s 0 oA,s 1 oA,s 2 oA,s 3 oA,s 4 oA,s 5 oA,s 6 oA,s 7 oA]
theorem tu:∀i,i<8->∀j,j<8->tim (1#8<<<i) (1#8<<<j)=tim (1#8<<<j) (1#8<<<i):=by decide+kernel
theorem rF:∀i,i<8->∀j,j<8->∀k,k<8->tim (tim (1#8<<<i) (1#8<<<j)) (1#8<<<k)=tim (1#8<<<i) (tim (1#8<<<j) (1#8<<<k)):=by decide+kernel
theorem yP (x y:BitVec 8):tim x y=tim y x:=by
 refine pX (f:=fun x=>tim x y) (g:=fun x=>tim y x) (fun a b=>gq a b y) (fun a b=>nB y a b) (fun i hi=> ?_) x;exact pX (f:=fun y=>tim (1#8<<<i) y) (g:=fun y=>tim y (1#8<<<i)) (fun a b=>nB _ a b) (fun a b=>gq a b _) (fun j A=>tu i hi j A) y
theorem Cc (x y z:BitVec 8):tim (tim x y) z=tim x (tim y z):=by
 refine pX (f:=fun x=>tim (tim x y) z) (g:=fun x=>tim x (tim y z)) (fun a b=>by simp only [gq]) (fun a b=>by simp only [gq]) (fun i hi=> ?_) x;refine pX (f:=fun y=>tim (tim (1#8<<<i) y) z) (g:=fun y=>tim (1#8<<<i) (tim y z)) (fun a b=>by simp only [nB,gq]) (fun a b=>by simp only [nB,gq]) (fun j A=> ?_) y;exact pX (f:=fun z=>tim (tim (1#8<<<i) (1#8<<<j)) z) (g:=fun z=>tim (1#8<<<i) (tim (1#8<<<j) z)) (fun a b=>by simp only [nB]) (fun a b=>by simp only [nB]) (fun k B=>rF i hi j A k B) z
theorem Cb:∀x:BitVec 8,tim x 1#8=x:=by decide+kernel
theorem Fe:∀x:BitVec 8,tim 0#8 x=0#8:=by decide+kernel
theorem yO (x y:BitVec 8) (k:Nat) (h:y>>>k=0#8):∀n,ru x y (k+n)=ru x y k
 |0=>rfl
 |n+1=>by
  have e:y.getLsbD (k+n)=false:=by
   have:=WS (fun b=>b.getLsbD n) h;simpa using this
  rw [<-WM,ru,yO x y k h n,e];simp
def pw (x:BitVec 8):BitVec 8:=
 let f:=fun y=>tim (tim y y) x
 let y:=f (f (f (f (f (f x)))))
 tim y y
def pws:Nat->BitVec 8->BitVec 8
 |0,x=>x
 |k+1,x=>tim (tim (pws k x) (pws k x)) x
theorem Mi:∀x:BitVec 8,x≠0#8->tim x (pw x)=1#8:=by decide+kernel
theorem Jr:pw 0#8=0#8:=by decide+kernel
theorem JZ {x y z:BitVec 8} (A:tim x y=1#8) (B:tim x z=1#8):y=z:=by
 have h:tim y (tim x z)=tim (tim y x) z:=(Cc y x z).symm;rw [B,Cb,yP y x,A,yP,Cb] at h;exact h
def Fy (y:BitVec 8) (k:Nat):BitVec 8:=(y<<<(k%8))|||(y>>>(8-k%8))
def bxs (y:BitVec 8):Nat->BitVec 8
 |0=>99#8
 |k+1=>bxs y k^^^Fy y k
def bx (x:BitVec 8):BitVec 8:=bxs (pw x) 5
def rN (y:BitVec 8) (i:Nat):BitVec 8:=y>>>i^^^y>>>((i+4)%8)^^^y>>>((i+5)%8)^^^y>>>((i+6)%8)^^^y>>>((i+7)%8)^^^99#8>>>i
def bxr (y:BitVec 8):Nat->BitVec 8
 |0=>0#8
 |k+1=>bxr y k|||((rN y k&&&1#8)<<<k)
theorem KH:∀y:BitVec 8,bxr y 8=bxs y 5:=by decide+kernel
open Go.RowKit
def tb (n:Nat) (f:Nat->BitVec 8):Nat->BitVec 8:=fun j=>if j<n then f j else 0#8
def lst (l:List (BitVec 8)):Nat->BitVec 8:=fun j=>l.getD j 0#8
theorem oL {n j:Nat} (f:Nat->BitVec 8) (h:j<n):tb n f j=f j:=Vz h
theorem PS {n:Nat} {f g:Nat->BitVec 8} (h:∀j,j<n->f j=g j):tb n f=tb n g:=by
 funext j;unfold tb;split
 .exact h j ‹_›
 .rfl
theorem aL {n:Nat} {f:Nat->BitVec 8} {l:List (BitVec 8)} (A:l.length=n) (h:∀j,j<n->f j=l.getD j 0#8):tb n f=lst l:=by
 funext j;unfold tb lst;split
 .exact h j ‹_›
 .rw [VG,WK oA];rfl
def sx (a b:Nat->BitVec 8):Nat->BitVec 8:=tb 16 fun j=>a j^^^b j
def thr (f:BitVec 8->BitVec 8) (s:Nat->BitVec 8):Nat->BitVec 8:=tb 16 fun j=>f (s j)
def frm (i:Nat):Nat:=(i+4*(i%4))%16
def too (j:Nat):Nat:=(j+12*(j%4))%16
theorem xk:∀i,i<16->too (frm i)=i/\frm (too i)=i/\frm i<16/\too i<16:=dcA
def trn (s:Nat->BitVec 8):Nat->BitVec 8:=tb 16 fun j=>s (frm j)
def mxs (m s:Nat->BitVec 8) (i:Nat):Nat->BitVec 8
 |0=>0#8
 |k+1=>mxs m s i k^^^tim (m ((k+4-i%4)%4)) (s (i/4*4+k))
def mx (m s:Nat->BitVec 8):Nat->BitVec 8:=tb 16 fun i=>mxs m s i 4
def nk0 (r:BitVec 8) (w:Nat->BitVec 8) (c:Nat):BitVec 8:=bx (w (12+(c+1)%4))^^^(if c=0 then r else 0#8)
def nkc (r:BitVec 8) (w:Nat->BitVec 8) (c:Nat):Nat->BitVec 8
 |0=>nk0 r w c^^^w c
 |q+1=>nkc r w c q^^^w (4*(q+1)+c)
def nk (r:BitVec 8) (w:Nat->BitVec 8):Nat->BitVec 8:=tb 16 fun j=>nkc r w (j%4) (j/4)
def rc:Nat->BitVec 8
 |0=>1#8
 |k+1=>tim (rc k) 2#8
def rk (key:Nat->BitVec 8):Nat->Nat->BitVec 8
 |0=>tb 16 key
 |k+1=>nk (rc k) (rk key k)
def mE:Nat->BitVec 8:=lst [2#8,3#8,1#8,1#8]
def rnd (key:Nat->BitVec 8) (r:Nat) (s:Nat->BitVec 8):Nat->BitVec 8:=
 sx (if r<10 then mx mE (trn (thr bx s)) else trn (thr bx s)) (rk key r)
def bt (key s:Nat->BitVec 8):Nat->Nat->BitVec 8
 |0=>sx s (rk key 0)
 |r+1=>rnd key (r+1) (bt key s r)
def enc (key s:Nat->BitVec 8):Nat->BitVec 8:=bt key s 10
def ibx (z:BitVec 8):BitVec 8:=Fy z 1^^^Fy z 3^^^Fy z 6^^^5#8
theorem Ke:∀y:BitVec 8,ibx (bxs y 5)=y:=by decide+kernel
theorem KG:∀y:BitVec 8,bxs (ibx y) 5=y:=by decide+kernel
theorem Mh:∀x:BitVec 8,pw (pw x)=x:=by decide+kernel
def un (z:BitVec 8):BitVec 8:=pw (ibx z)
theorem PP (x:BitVec 8):un (bx x)=x:=by rw [un,bx,Ke,Mh]
theorem Qo (x:BitVec 8):bx (un x)=x:=by rw [un,bx,Mh,KG]
open Go.RowKit
def B8 (a:BitVec 8):Int:=a.toNat
theorem kK (a:BitVec 8):0<=B8 a:=by simp [B8]
theorem wT (a:BitVec 8):B8 a<=255:=by have:=a.isLt;simp only [B8];omega
theorem Ob {a b:BitVec 8}:B8 a=B8 b↔a=b:=by
 simp only [B8];constructor
 .intro h;exact Wx (by exact_mod_cast h)
 .rintro rfl;rfl
theorem IK (a b:BitVec 8):(B8 a==B8 b)=(a==b):=by
 rw [WX];simp [Ob]
theorem cG (a:BitVec 8):BitVec.ofInt 8 (B8 a)=a:=by simp [B8]
theorem wX (a:BitVec 8):IntKind.u8.wrap (a.toNat:Int)=B8 a:=by
 rw [ZR];rfl;have:=a.isLt;omega
theorem dD (x y:Int):bits .xor .u8 x y=B8 (BitVec.ofInt 8 x^^^BitVec.ofInt 8 y):=wX _
theorem dE (x y:Int):bits .and .u8 x y=B8 (BitVec.ofInt 8 x&&&BitVec.ofInt 8 y):=wX _
theorem dV (x y:Int):bits .or .u8 x y=B8 (BitVec.ofInt 8 x|||BitVec.ofInt 8 y):=wX _
theorem jY (a:BitVec 8) (k:Nat):B8 a/(2:Int)^k=B8 (a>>>k):=by
 simp only [B8,YF,XS];norm_cast
theorem yE (a:BitVec 8):B8 a/(2:Int)=B8 (a>>>1):=jY a 1
theorem Lj (a:BitVec 8):B8 a/(128:Int)=B8 (a>>>7):=jY a 7
theorem ns (a:BitVec 8) (k:Nat):B8 a*(2:Int)^k%(256:Int)=B8 (a<<<k):=by
 simp only [B8,Xs,YZ];simp
theorem yF (a:BitVec 8):B8 a*(2:Int)%(256:Int)=B8 (a<<<1):=ns a 1
attribute [local go_sem] dD dE dV cG
theorem JO:∀z:BitVec 8,(B8 (z&&&1#8)==1)=z.getLsbD 0:=by decide+kernel
theorem Io (y:BitVec 8) (k:Nat):(B8 (y>>>k&&&1#8)==1)=y.getLsbD k:=by
 rw [JO];simp
theorem DM (z:BitVec 8):(B8 z/2==0)=(z>>>1==0#8):=by rw [yE];exact IK (z>>>1) 0#8
theorem He (x:BitVec 8):BitVec.ofInt 8 (B8 x*2%256)^^^BitVec.ofInt 8 (B8 x/128*27)=xt x:=by
 rw [Lj,yF,cG,show BitVec.ofInt 8 (B8 (x>>>7)*27)=(x>>>7)*27#8 from by
  have:B8 (x>>>7)*(27:Int)=((((x>>>7).toNat*27:Nat)):Int):=(by simp [B8]);rw [this,XM];apply Wx;simp [BitVec.toNat_mul]];rfl
theorem Fl:∀y:BitVec 8,y>>>7>>>1=0#8:=by decide+kernel
def GQ (w:As) (x y:BitVec 8) (f:Nat) (x' y' p':Value) (w':As):Prop:=
 ∃k,f+k=7/\p'= .int .u8 (B8 (ru x y k))/\x'= .int .u8 (B8 (xts k x))/\y'= .int .u8 (B8 (y>>>k))/\w=w'
theorem mM (x y:BitVec 8) (w:As):
  Calls prog 169 #[.int .u8 (B8 x),.int .u8 (B8 y)] w fun e w'=>e= .returned (.int .u8 (B8 (tim x y)))/\w=w':=by
 go_enter func169,ntmps169;go_wp2_with fail;go_step3;go_wp2_with fail;go_step3;go_wp2_with fail;go_loopg [0,1,5] 7 (GQ w x y)
 case atStart=>exact ⟨0,oA,rfl,rfl,rfl,rfl⟩
 case round=>
  obtain ⟨k,L,rfl,rfl,rfl,rfl⟩:=hrel;have t1:=Io y k;have t2:=DM (y>>>k);have O:=kK (y>>>k);have R:=wT (y>>>k);have b2:=kK (xts k x);have S:=wT (xts k x);have F:∀q:Bool,y.getLsbD k=q->ru x y (k+1)=ru x y k^^^(if q then xts k x else 0#8):=fun q h=>(by rw [<-h];rfl);have P:=Hd F;clear F;by_cases C:y>>>k>>>1=0#8
  .have hz':(y>>>k>>>1==0#8)=true:=(by simpa using C);rw [hz'] at t2;have G:ru x y (k+1)=tim x y:=by
    have J:y>>>(k+1)=0#8:=(by rw [<-C,Ys]);have:=yO x y (k+1) J (7-k);rw [show k+1+(7-k)=8 by omega] at this;exact this.symm
   have I:=Hd G;clear G C hz';cases A:y.getLsbD k with
   |true=>
    rw [A] at t1;have B:=Hd A;clear A;go_wp2_with fail
    (try rw [Wq]);go_ret;refine ⟨?_,rfl⟩;rw [<-I.out,P.out true B.out];rfl
   |false=>
    rw [A] at t1;have B:=Hd A;clear A;go_wp2_with fail
    (try rw [Wq]);go_ret;refine ⟨?_,rfl⟩;rw [<-I.out,P.out false B.out];simp
  .have hz':(y>>>k>>>1==0#8)=false:=(by simpa using C);rw [hz'] at t2;have N:k<7:=by
    rcases YX k 7 with h|h
    .exact h
    .exact absurd (by rw [show k=7 by omega];exact Fl y) C
   clear C hz';have E:gk-1+(k+1)=7/\gk-1<gk:=oA;have D:=Hd E;clear E L;cases A:y.getLsbD k with
   |true=>
    rw [A] at t1;have B:=Hd A;clear A;go_wp2_with fail;go_roundg (gk-1)
    case rel=>
     refine ⟨k+1,D.out.1,?_,?_,?_,rfl⟩
     .rw [P.out true B.out];rfl
     .rw [He];rfl
     .rw [yE,Ys]
    case measure=>exact D.out.2
   |false=>
    rw [A] at t1;have B:=Hd A;clear A;go_wp2_with fail;go_roundg (gk-1)
    case rel=>
     refine ⟨k+1,D.out.1,?_,?_,?_,rfl⟩
     .rw [P.out false B.out];simp
     .rw [He];rfl
     .rw [yE,Ys]
    case measure=>exact D.out.2
theorem PY (y:BitVec 8):y|||BitVec.ofInt 8 (B8 y/256)=Fy y 0:=by
 have h:B8 y/(2:Int)^8=B8 (y>>>8):=jY y 8;rw [show (256:Int)=(2:Int)^8 from rfl,h,cG];simp [Fy]
theorem tL (y:BitVec 8) (k:Nat) (p q:Int) (A:p=(2:Int)^k) (B:q=(2:Int)^(8-k)) (C:k<8):BitVec.ofInt 8 (B8 y*p%256)|||BitVec.ofInt 8 (B8 y/q)=Fy y k:=by
 have h:B8 y/(2:Int)^(8-k)=B8 (y>>>(8-k)):=jY y (8-k);have D:B8 y*(2:Int)^k%(256:Int)=B8 (y<<<k):=ns y k;rw [A,B,h,D,cG,cG,Fy,Wn C]
theorem Fx (y:BitVec 8) (k:Nat) (A:k<5) (w:As):
  Calls prog 189 #[.int .u8 (B8 y),.int .i64 (k:Int)] w fun e w'=>e= .returned (.int .u8 (B8 (Fy y k)))/\w=w':=by
 have B:=kK y;have C:=wT y;have t0:bits .and .u64 0 7=0:=dcA;have t1:bits .and .u64 1 7=1:=dcA;have t2:bits .and .u64 2 7=2:=dcA;have t3:bits .and .u64 3 7=3:=dcA;have t4:bits .and .u64 4 7=4:=dcA;have hcs:k=0\/k=1\/k=2\/k=3\/k=4:=oA;rcases hcs with rfl|rfl|rfl|rfl|rfl
 all_goals
  go_enter func189,ntmps189
  go_wp2_with fail
  go_ret
 .exact ⟨by rw [<-PY y];rfl,rfl⟩
 .exact ⟨by rw [<-tL y 1 2 128 rfl rfl oA];rfl,rfl⟩
 .exact ⟨by rw [<-tL y 2 4 64 rfl rfl oA];rfl,rfl⟩
 .exact ⟨by rw [<-tL y 3 8 32 rfl rfl oA];rfl,rfl⟩
 .exact ⟨by rw [<-tL y 4 16 16 rfl rfl oA];rfl,rfl⟩
theorem Kc:(Tryz.prog.info? 3).map (·.size)=some 1:=by kernel_rfl
theorem Ks (k:Nat) (h:k<5):(#[Value.int .i64 0,.int .i64 1,.int .i64 2,.int .i64 3,.int .i64 4])[k]? =some (.int .i64 (k:Int)):=by
 have hcs:k=0\/k=1\/k=2\/k=3\/k=4:=oA;rcases hcs with rfl|rfl|rfl|rfl|rfl<;>rfl
theorem KJ (x:BitVec 8) (w:As):
  Calls prog 168 #[.int .u8 (B8 x)] w fun e w'=>e= .returned (.int .u8 (B8 (bx x)))/\w=w':=by
 go_enter func168,ntmps168;go_wp2_with fail;go_loop [3,8] (fun y i=>∃k:Nat,k<=6/\i= .int .i64 k/\y= .int .u8 (B8 (pws k x))) (fun _ i=>6-(intOf i).toNat)
 case atStart=>exact ⟨0,oA,rfl,rfl⟩
 case round=>
  obtain ⟨k,B,rfl,rfl⟩:=hrel;by_cases A:k<6
  .go_wp2_with (go_at_call 169;refine (mM _ _ _).mono ?_;rintro e w' ⟨rfl,rfl⟩);go_round
   case rel=>exact ⟨k+1,oA,gnA,rfl⟩
   case measure=>simp [intOf];omega
  .obtain rfl:k=6:=oA;go_wp2_with (go_at_call 169;refine (mM _ _ _).mono ?_;rintro e w' ⟨rfl,rfl⟩);go_loop [4,20] (fun o i=>∃k:Nat,k<=5/\i= .int .i64 k/\o= .int .u8 (B8 (bxs (pw x) k))) (fun _ i=>5-(intOf i).toNat)
   case atStart=>exact ⟨0,oA,rfl,rfl⟩
   case round=>
    obtain ⟨k,B,rfl,rfl⟩:=hrel;by_cases A:k<5
    .have hi:∀W,(Instr.index 261 (.agg #[.int .i64 0,.int .i64 1,.int .i64 2,.int .i64 3,.int .i64 4]) (.int .i64 (k:Int))).run prog W= .ok (.int .i64 (k:Int)) W:=fun W=>
      eG underlying261 underlying3 rfl Kc W _ k _ (Ks k A) A
     go_wp2_with (go_at_call 189;refine (Fx _ _ A _).mono ?_;rintro e w' ⟨rfl,rfl⟩);go_round
     case rel=>exact ⟨k+1,oA,gnA,rfl⟩
     case measure=>simp [intOf];omega
    .go_wp2_with fail;go_ret;obtain rfl:k=5:=oA;exact ⟨rfl,rfl⟩
def EJ (w:As) (x y:BitVec 8) (f:Nat) (o i:Value) (w':As):Prop:=
 ∃k,f+k=8/\o= .int .u8 (B8 (ru x y k))/\i= .int .i64 (k:Int)/\w=w'
def EK (w:As) (x:BitVec 8) (n:Nat) (f:Nat) (z i:Value) (w':As):Prop:=
 ∃j,f+j=n/\z= .int .u8 (B8 (xts j x))/\i= .int .i64 (j:Int)/\w=w'
theorem Nn (y:BitVec 8) (k:Nat):(B8 (BitVec.ofInt 8 (B8 y/(2:Int)^k)&&&1#8)==1)=y.getLsbD k:=by
 rw [jY,cG,Io]
theorem Mc:∀z:BitVec 8,(B8 z/128==1)=z.getLsbD 7:=by decide+kernel
theorem LC (z:BitVec 8) (h:z.getLsbD 7=true):BitVec.ofInt 8 (B8 z*2%256)^^^27#8=xt z:=by
 rw [yF,cG,BM,h];rfl
theorem LD (z:BitVec 8) (h:z.getLsbD 7=false):z<<<1=xt z:=by
 rw [BM,h];simp
theorem rZ (x y:BitVec 8) (w:As):
  Calls prog 203 #[.int .u8 (B8 x),.int .u8 (B8 y)] w fun e w'=>e= .returned (.int .u8 (B8 (tim x y)))/\w=w':=by
 have I:=kK y;have J:=wT y;go_enter func203,ntmps203;go_wp2_with fail;go_loopg [5,6] 8 (EJ w x y)
 case atStart=>exact ⟨0,oA,rfl,rfl,rfl⟩
 case round=>
  obtain ⟨k,L,rfl,rfl,rfl⟩:=hrel;by_cases F:k<8
  .have t1:=Nn y k;have D:∀q:Bool,y.getLsbD k=q->ru x y (k+1)=ru x y k^^^(if q then xts k x else 0#8):=fun q h=>(by rw [<-h];rfl);have P:=Hd D;clear D;cases A:y.getLsbD k with
   |true=>
    rw [A] at t1;have B:=Hd A;clear A;go_wp2_with fail;obtain ⟨E,rfl⟩:∃g:Nat,g=gk:=⟨_,rfl⟩;go_loopg [7,8] k (EK w x k)
    case atStart=>exact ⟨0,oA,rfl,rfl,rfl⟩
    case round=>
     obtain ⟨j,N,rfl,rfl,rfl⟩:=hrel;have b2:=kK (xts j x);have O:=wT (xts j x);by_cases G:j<k
     .have t2:=Mc (xts j x);cases hc:(xts j x).getLsbD 7 with
      |true=>
       rw [hc] at t2;have C:=Hd (LC _ hc);clear hc;go_wp2_with fail;go_roundg (gk-1)
       case rel=>exact ⟨j+1,oA,by rw [C.out];rfl,gnA,rfl⟩
       case measure=>omega
      |false=>
       rw [hc] at t2;have C:=Hd (LD _ hc);clear hc;go_wp2_with fail;go_roundg (gk-1)
       case rel=>exact ⟨j+1,oA,by rw [yF,C.out];rfl,gnA,rfl⟩
       case measure=>omega
     .obtain rfl:j=k:=oA;go_wp2_with fail;go_roundg (E-1)
      case rel=>exact ⟨j+1,oA,by rw [P.out true B.out];rfl,gnA,rfl⟩
      case measure=>omega
   |false=>
    rw [A] at t1;have B:=Hd A;clear A;go_wp2_with fail;go_roundg (gk-1)
    case rel=>exact ⟨k+1,oA,by rw [P.out false B.out];simp,gnA,rfl⟩
    case measure=>omega
  .go_wp2_with fail;go_ret;obtain rfl:k=8:=oA;exact ⟨rfl,rfl⟩
def NS (w:As) (x:BitVec 8) (f:Nat) (i:Value) (w':As):Prop:=
 ∃k,f+k=256/\1<=k/\i= .int .i64 (k:Int)/\(∀j,1<=j->j<k->tim x (BitVec.ofNat 8 j)≠1#8)/\w=w'
theorem Ms (z:BitVec 8):(B8 z==1)=(z==1#8):=IK z 1#8
theorem pA (k:Nat) (h:k<256):(k:Int)=B8 (BitVec.ofNat 8 k):=by
 simp only [B8,Wi];omega
theorem qh (x y:BitVec 8) (n:Int) (h:n=B8 y) (w:As):
  Calls prog 203 #[.int .u8 (B8 x),.int .u8 n] w fun e w'=>e= .returned (.int .u8 (B8 (tim x y)))/\w=w':=by
 subst h;exact rZ x y w
theorem DF {x:BitVec 8} {k:Nat} (h:tim x (BitVec.ofNat 8 k)=1#8):BitVec.ofNat 8 k=pw x:=by
 by_cases hx:x=0#8
 .subst hx;rw [Fe] at h;exact absurd h dcA
 .exact JZ h (Mi x hx)
theorem Gj {x:BitVec 8} (h:∀j,1<=j->j<256->tim x (BitVec.ofNat 8 j)≠1#8):pw x=0#8:=by
 by_cases hx:x=0#8
 .subst hx;exact Jr
 .have h1:=Mi x hx;have B:=(pw x).isLt;by_cases A:(pw x).toNat=0
  .have:pw x=0#8:=Wx A;exact this
  .exact absurd (by rw [BitVec.ofNat_toNat,BitVec.setWidth_eq];exact h1) (h (pw x).toNat oA oA)
theorem xX (x:BitVec 8) (w:As):
  Calls prog 202 #[.int .u8 (B8 x)] w fun e w'=>e= .returned (.int .u8 (B8 (pw x)))/\w=w':=by
 go_enter func202,ntmps202;go_wp2_with fail;go_loopg [3] 255 (NS w x)
 case atStart=>exact ⟨1,oA,oA,rfl,fun j E I=>by omega,rfl⟩
 case round=>
  obtain ⟨k,N,L,rfl,C,rfl⟩:=hrel;have F:=Hd C;clear C;by_cases G:k<256
  .have E0:=Hd (pA k G);by_cases A:tim x (BitVec.ofNat 8 k)=1#8
   .have t:(B8 (tim x (BitVec.ofNat 8 k))==1)=true:=(by rw [A];rfl);have B:=Hd A;clear A;go_wp2_with (go_at_call 203;refine (qh _ _ _ E0.out _).mono ?_;rintro e w' ⟨rfl,rfl⟩)
    (try rw [Wq]);go_ret;exact ⟨by rw [<-DF B.out,<-E0.out];rfl,rfl⟩
   .have t:=Ms (tim x (BitVec.ofNat 8 k));have D:(tim x (BitVec.ofNat 8 k)==1#8)=false:=(by simpa using A);rw [D] at t;have B:=Hd A;clear A D;go_wp2_with (go_at_call 203;refine (qh _ _ _ E0.out _).mono ?_;rintro e w' ⟨rfl,rfl⟩);go_roundg (gk-1)
    case rel=>
     refine ⟨k+1,oA,oA,gnA,fun j E I=> ?_,rfl⟩;by_cases J:j=k
     .subst J;exact B.out
     .exact F.out j E oA
    case measure=>omega
  .go_wp2_with fail;go_ret;obtain rfl:k=256:=oA;exact ⟨by rw [Gj F.out];rfl,rfl⟩
theorem lu (a:BitVec 8):B8 a/(2:Int)=B8 (a>>>1)/\B8 a/(4:Int)=B8 (a>>>2)/\B8 a/(8:Int)=B8 (a>>>3)/\B8 a/(16:Int)=B8 (a>>>4)/\B8 a/(32:Int)=B8 (a>>>5)/\B8 a/(64:Int)=B8 (a>>>6)/\B8 a/(128:Int)=B8 (a>>>7):=
 ⟨jY a 1,jY a 2,jY a 3,jY a 4,jY a 5,jY a 6,jY a 7⟩
theorem mF (a:BitVec 8):B8 a*(2:Int)%(256:Int)=B8 (a<<<1)/\B8 a*(4:Int)%(256:Int)=B8 (a<<<2)/\B8 a*(8:Int)%(256:Int)=B8 (a<<<3)/\B8 a*(16:Int)%(256:Int)=B8 (a<<<4)/\B8 a*(32:Int)%(256:Int)=B8 (a<<<5)/\B8 a*(64:Int)%(256:Int)=B8 (a<<<6)/\B8 a*(128:Int)%(256:Int)=B8 (a<<<7):=
 ⟨ns a 1,ns a 2,ns a 3,ns a 4,ns a 5,ns a 6,ns a 7⟩
theorem jv (y:BitVec 8) (k:Nat) {e:BitVec 8} (h:e=(rN y k&&&1#8)<<<k):Value.int .u8 (B8 (bxr y k|||e))= .int .u8 (B8 (bxr y (k+1))):=by
 rw [h];rfl
theorem Oa (a:BitVec 8):B8 a%(256:Int)=B8 a:=by
 have A:=kK a;have B:=wT a;omega
def NZ (w:As) (y:BitVec 8) (f:Nat) (o i:Value) (w':As):Prop:=
 ∃k,f+k=8/\o= .int .u8 (B8 (bxr y k))/\i= .int .i64 (k:Int)/\w=w'
theorem FF (x:BitVec 8) (w:As):
  Calls prog 191 #[.int .u8 (B8 x)] w fun e w'=>e= .returned (.int .u8 (B8 (bx x)))/\w=w':=by
 go_enter func191,ntmps191;go_wp2_with (go_at_call 202;refine (xX _ _).mono ?_;rintro e w' ⟨rfl,rfl⟩);obtain ⟨y,A⟩:=At (pw x);rw [<-A];have B:=Hd A;clear A;have D:=kK y;have E:=wT y;go_loopg [4,5] 8 (NZ w y)
 case atStart=>exact ⟨0,oA,rfl,rfl,rfl⟩
 case round=>
  obtain ⟨k,F,rfl,rfl,rfl⟩:=hrel;by_cases C:k<8
  .have s0:BitVec.ofInt 8 (B8 y/(2:Int)^k)=y>>>k:=(by rw [jY,cG]);have hcs:k=0\/k=1\/k=2\/k=3\/k=4\/k=5\/k=6\/k=7:=oA;rcases hcs with rfl|rfl|rfl|rfl|rfl|rfl|rfl|rfl
   all_goals
    go_wp2_with fail
   .go_roundg (gk-1)
    case rel=>exact ⟨1,oA,jv y 0 (by simp only [lu,Oa,cG];simp [rN]),rfl,rfl⟩
    case measure=>omega
   .go_roundg (gk-1)
    case rel=>exact ⟨2,oA,jv y 1 (by simp only [lu,mF,cG];simp [rN]),rfl,rfl⟩
    case measure=>omega
   .go_roundg (gk-1)
    case rel=>exact ⟨3,oA,jv y 2 (by simp only [lu,mF,cG];simp [rN]),rfl,rfl⟩
    case measure=>omega
   .go_roundg (gk-1)
    case rel=>exact ⟨4,oA,jv y 3 (by simp only [lu,mF,cG];simp [rN]),rfl,rfl⟩
    case measure=>omega
   .go_roundg (gk-1)
    case rel=>exact ⟨5,oA,jv y 4 (by simp only [lu,mF,cG];simp [rN]),rfl,rfl⟩
    case measure=>omega
   .go_roundg (gk-1)
    case rel=>exact ⟨6,oA,jv y 5 (by simp only [lu,mF,cG];simp [rN]),rfl,rfl⟩
    case measure=>omega
   .go_roundg (gk-1)
    case rel=>exact ⟨7,oA,jv y 6 (by simp only [lu,mF,cG];simp [rN]),rfl,rfl⟩
    case measure=>omega
   .go_roundg (gk-1)
    case rel=>exact ⟨8,oA,jv y 7 (by simp only [lu,mF,cG];simp [rN]),rfl,rfl⟩
    case measure=>omega
  .go_wp2_with fail;go_ret;obtain rfl:k=8:=oA;rw [B.out];exact ⟨by rw [bx,<-KH];rfl,rfl⟩
open Go.RowKit
def fv (a:BitVec 8):Value:= .int .u8 (B8 a)
def fL (n:Nat) (s:Nat->BitVec 8):AT:=(List.range n).map fun i=>fv (s i)
def fA (n:Nat) (s:Nat->BitVec 8):AS:=(fL n s).toArray
theorem dh (n:Nat) (s:Nat->BitVec 8):(fL n s).length=n:=by simp [fL]
theorem aH (n:Nat) (s:Nat->BitVec 8):(fA n s).size=n:=by simp [fA,fL]
theorem eT {n i:Nat} (s:Nat->BitVec 8) (h:i<n):(fA n s)[i]? =some (.int .u8 (B8 (s i))):=by simp [fA,fL,h,fv]
theorem uz {n:Nat} {s t:Nat->BitVec 8} (h:∀i,i<n->s i=t i):fA n s=fA n t:=by
 unfold fA fL;congr 1;apply WQ;intro i hi;rw [h i (Wk.1 hi)]
theorem MS {n i:Nat} (s:Nat->BitVec 8) (v:BitVec 8) (_h:i<n):(fA n s).setIfInBounds i (.int .u8 (B8 v))=fA n (fun j=>if j=i then v else s j):=by
 apply XA;intro j;by_cases A:j<n
 .rw [eT _ A];by_cases e:i=j
  .subst e;simp [aH,A]
  .rw [Yo e,eT _ A,VV (Vl e)]
 .rw [Wz (by simp [aH];omega),Wz (by simp [aH];omega)]
theorem fK (n:Nat) (s:Nat->BitVec 8):(fA n s).toList.all (·.oneCell')=true:=by
 simp [fA,fL,fv,Value.oneCell']
theorem Qj (n:Nat) (s:Nat->BitVec 8):fA n (tb n s)=fA n s:=uz fun _ h=>oL s h
theorem gL (a:BitVec 8):(B8 a).toNat=a.toNat:=by simp [B8]
theorem rs (a:BitVec 8):B8 a<256:=by have:=wT a;omega
section
variable {a b c w:As} {g:Nat}
theorem xO {x:Option Nat} (h:a.grownBy b x) (k:b.grownBy c x):a.grownBy c x:=
 ⟨k.os.trans h.os,k.tape.trans h.tape,k.output.trans h.output,Vd h.size k.size,fun i hi hn=>(k.block i (VP hi h.size) hn).trans (h.block i hi hn)⟩
theorem jO {x:Option Nat} (h:a.grownBy w x):a.grownBy w.drew x:=⟨h.os,h.tape,h.output,h.size,h.block⟩
theorem mo {x:Option Nat} (h:a.grownBy w x) (o:Obj):a.grownBy (w.alloc o) x:=xO h (World.grownBy_alloc w o x)
theorem gF (h:a.grownBy w (some g)) (i:Nat) (u:Value):a.grownBy (w.setCell ⟨g,i,none⟩ u) (some g):=
 ⟨h.os,h.tape,h.output,by simpa [World.setCell] using h.size,fun k B A=>(Vq w ⟨g,i,none⟩ k u (by rintro rfl;exact A rfl)).trans (h.block k B A)⟩
theorem Mr {x:Option Nat} (h:a.grownBy w x) {A i:Nat} (D:a.heap.size<=A) (u:Value):a.grownBy (w.setCell ⟨A,i,none⟩ u) x:=
 ⟨h.os,h.tape,h.output,by simpa [World.setCell] using h.size,fun k C B=>(Vq w ⟨A,i,none⟩ k u (by show k≠A;omega)).trans (h.block k C B)⟩
theorem ox {x:Option Nat} (h:a.grownBy w x) {A:Nat} (D:a.heap.size<=A) (cs:AS):a.grownBy (w.setRow A cs) x:=
 ⟨h.os,h.tape,h.output,by simpa [World.setRow] using h.size,fun k C B=>(Wf w A k cs oA).trans (h.block k C B)⟩
end
theorem ft (k:Nat) (A B:Nat->BitVec 8):(fun j=>if j=k then A k else if j<k then A j else B j)=fun j=>if j<k+1 then A j else B j:=by
 funext j;by_cases h:j=k
 .subst h;simp
 .by_cases h2:j<k
  .simp [h,h2,show j<k+1 by omega]
  .simp [h,h2,show ¬j<k+1 by omega]
theorem Blk.ofF {w:As} {g n:Nat} {s t:Nat->BitVec 8} {ty:TypeId} (h:Blk w g (fA n s) ty) (e:∀i,i<n->s i=t i):Blk w g (fA n t) ty:=by rw [<-uz e];exact h
theorem Blk.setF {w:As} {g n k:Nat} {s:Nat->BitVec 8} {ty:TypeId} (h:Blk w g (fA n s) ty) (A:k<n) (v:BitVec 8):Blk (w.setCell ⟨g,k,none⟩ (.int .u8 (B8 v))) g (fA n fun j=>if j=k then v else s j) ty:=by
 have:=h.set k (.int .u8 (B8 v));rwa [MS _ _ A] at this
theorem Blk.atF {w:As} {g n k:Nat} {s:Nat->BitVec 8} {ty:TypeId} (h:Blk w g (fA n s) ty) (A:k<n) {v:BitVec 8} (B:s k=v):w.cell? ⟨g,k,none⟩=some (.int .u8 (B8 v)):=by rw [h.rule,eT _ A,B]
attribute [local go_sem] dD dE dV cG
theorem Ko (k:Nat):((k:Int)+4*((k:Int)%4))%16=(frm k:Int):=by simp only [frm];omega
theorem xi:(Tryz.prog.info? 5).map (·.size)=some 1:=by kernel_rfl
theorem ee:lY prog 169 16:=⟨⟨_,underlying169,rfl⟩,krA⟩
theorem Lr:lY prog 235 4:=⟨⟨_,underlying235,rfl⟩,krA⟩
theorem xl (A B o:Nat) (s f:Nat->BitVec 8) (w:As) (N:Blk w A (fA 16 s) 169) (J:A≠B)
  (F:∀i,i<256->w.cell? ⟨B,o+i,none⟩=some (.int .u8 (B8 (f i)))):
  Calls prog 172 #[.pointer (some ⟨A,0,none⟩),.pointer (some ⟨B,o,none⟩)] w fun e w'=>
   e= .returned (.tuple #[])/\Blk w' A (fA 16 (tb 16 fun j=>f (s j).toNat)) 169/\w.grownBy w' (some A):=by
 have L:B<w.heap.size:=Vx w _ (F 0 oA);have O:=Hd F;clear F;go_enter func172,ntmps172;go_wp2_with fail;go_loopw [7] (fun i wr=>∃k:Nat,k<=16/\i= .int .i64 k/\Blk wr A (fA 16 (fun j=>if j<k then f (s j).toNat else s j)) 169/\w.grownBy wr (some A)) (fun i _=>16-(intOf i).toNat)
 case atStart=>exact ⟨0,oA,rfl,by simpa using N,Wd _ _⟩
 case round=>
  obtain ⟨k,U,rfl,G,C⟩:=hrel;by_cases D:k<16
  .have hx0:=kK (s k);have S:=rs (s k);have T:=gL (s k);have V:∀W,Old wr.drew W->W.cell? ⟨A,k,none⟩=some (.int .u8 (B8 (s k))):=fun W h=>(by rw [(G.drew.old h).rule,eT _ D];simp);have I:B<wr.heap.size:=VP L C.size;go_wp2_with fail;refine aB (0::1::2::3::4::5::[]) krA krA cdA ?_
   repeat refine lxA ?_
   refine bJ ?_;have X:∀W,Old wr.drew.drew W->W.cell? ⟨B,o+(s k).toNat,none⟩=some (.int .u8 (B8 (f (s k).toNat))):=fun W h=>by
    rw [h.cell (p:=⟨B,o+(s k).toNat,none⟩) I];exact (C.cell (O.out _ (s k).isLt) (by simpa using J.symm))
   go_wp2_with fail;refine ah true Old Old.refl Old.trans (.step 0 (.step 1 (.step 2 (.step 3 (.step 4 (.step 5 (.step 6 (.step 7 (.step 8 (.step 9 .done)))))))))) krA krA cdA ?_
   repeat refine txA ?_
   have E:=G.drew.drew;have R:=E.rule;have f2:=E.free;have d:=eT (fun j=>if j<k then f (s j).toNat else s j) D;refine az rfl rfl rfA (fun K l=> ?_);go_wp2_with fail;refine aq ?_;clear R f2;go_wp2_with fail;go_roundw
   case rel=>
    refine ⟨k+1,oA,gnA,?_,gF (jO (jO C)) k _⟩;exact (E.setF D (f (s k).toNat)).ofF fun i _=>Wv (ft k (fun j=>f (s j).toNat) s) i
   case measure=>simp [intOf];omega
  .go_wp2_with fail;go_end0;obtain rfl:k=16:=oA;refine ⟨rfl,?_,C⟩;rw [Qj];rwa [show fA 16 (fun j=>if j<16 then f (s j).toNat else s j)=fA 16 (fun j=>f (s j).toNat) from uz fun i h=>Vz h] at G
theorem JV (A B r:Nat) (s K:Nat->BitVec 8) (w:As) (N:Blk w A (fA 16 s) 169) (J:A≠B) (T:r<11)
  (F:∀i,i<16->w.cell? ⟨B,512+r*16+i,none⟩=some (.int .u8 (B8 (K i)))):
  Calls prog 170 #[.pointer (some ⟨B,0,none⟩),.pointer (some ⟨A,0,none⟩),.int .i64 (r:Int)] w fun e w'=>
   e= .returned (.tuple #[])/\Blk w' A (fA 16 (sx s K)) 169/\w.grownBy w' (some A):=by
 have L:B<w.heap.size:=Vx w _ (F 0 oA);have O:=Hd F;clear F;have S:(r:Int)<11:=oA;go_enter func170,ntmps170;go_wp2_with fail;go_loopw [7] (fun i wr=>∃k:Nat,k<=16/\i= .int .i64 k/\Blk wr A (fA 16 (fun j=>if j<k then s j^^^K j else s j)) 169/\w.grownBy wr (some A)) (fun i _=>16-(intOf i).toNat)
 case atStart=>exact ⟨0,oA,rfl,by simpa using N,Wd _ _⟩
 case round=>
  obtain ⟨k,U,rfl,G,D⟩:=hrel;by_cases C:k<16
  .have C1:∀W,Old wr.drew W->W.cell? ⟨A,k,none⟩=some (.int .u8 (B8 (s k))):=fun W h=>(G.drew.old h).atF C skA;have I:B<wr.heap.size:=VP L D.size;have V:∀W,Old wr.drew W->W.cell? ⟨B,512+r*16+k,none⟩=some (.int .u8 (B8 (K k))):=fun W h=>by
    rw [h.cell (p:=⟨B,512+r*16+k,none⟩) I];exact (D.cell (O.out _ C) (by simpa using J.symm))
   go_wp2_with fail;refine ah true Old Old.refl Old.trans (.step 0 (.step 1 (.step 2 (.step 3 (.step 4 (.step 5 (.step 6 (.step 7 (.step 8 (.step 9 (.step 10 (.step 11 (.step 12 (.step 13 (.step 14 (.step 15 (.step 16 .done))))))))))))))))) krA krA cdA ?_
   repeat refine txA ?_
   have E:=G.drew;have R:=E.rule;have f2:=E.free;have X:=eT (fun j=>if j<k then s j^^^K j else s j) C;refine az rfl rfl rfA (fun K d=> ?_);go_wp2_with fail;refine aq ?_;clear R f2;go_wp2_with fail;go_roundw
   case rel=>
    refine ⟨k+1,oA,gnA,?_,gF (jO D) k _⟩;exact (E.setF C (s k^^^K k)).ofF fun i _=>Wv (ft k (fun j=>s j^^^K j) s) i
   case measure=>simp [intOf];omega
  .go_wp2_with fail;go_end0;obtain rfl:k=16:=oA;exact ⟨rfl,G.ofF fun i h=>by rw [sx,oL _ h,Vz h],D⟩
theorem Aj (A:Nat) (s:Nat->BitVec 8) (w:As) (C:Blk w A (fA 16 s) 169):
  Calls prog 174 #[.pointer (some ⟨A,0,none⟩),.bool false] w fun e w'=>
   e= .returned (.tuple #[])/\Blk w' A (fA 16 (trn s)) 169/\w.grownBy w' (some A):=by
 have R:=C.lt;go_enter func174,ntmps174;go_wp2_with (first|refine ap rfl 169 ee _ rfl rfl C (aH _ _) ?_|refine ae rfl 169 ee (.tmp 4) _ rfl rfl rfl (Blk.new _ _ _) (aH _ _) rfl (fK _ _) ?_);refine ag (fun F=>Blk F w.heap.size (fA 16 s) 169/\Blk F A (fA 16 s) 169/\w.grownBy F (some A)) ⟨(Blk.new _ _ _).setRow _,(C.alloc _).setRow_other _ _ oA,ox (mo (Wd _ _) _) (VU _) _⟩ ?_;rintro w0 ⟨B,G,I⟩;obtain ⟨H,J⟩:=At w.heap.size;rw [<-J] at B⊢;have O:H≠A:=oA;clear C R J;go_loopw [10] (fun i wr=>∃k:Nat,k<=16/\i= .int .i64 k/\Blk wr H (fA 16 s) 169/\Blk wr A (fA 16 (fun j=>if j<k then s (frm j) else s j)) 169/\w.grownBy wr (some A)) (fun i _=>16-(intOf i).toNat)
 case atStart=>exact ⟨0,oA,rfl,B,by simpa using G,I⟩
 case round=>
  clear B G I;obtain ⟨k,V,rfl,B,L,N⟩:=hrel;by_cases D:k<16
  .have hfr:frm k<16:=(xk k D).2.2.1;have U:=Ko k;have T:(frm k:Int)<16:=oA;have X:∀W,Old wr.drew W->W.cell? ⟨H,frm k,none⟩=some (.int .u8 (B8 (s (frm k)))):=fun W h=>(B.drew.old h).atF hfr rfl;go_wp2_with fail;refine ah true Old Old.refl Old.trans (.step 0 (.step 1 (.step 2 (.step 3 (.step 4 (.step 5 (.step 6 (.step 7 .done)))))))) krA krA cdA ?_
   repeat refine txA ?_
   have E:=L.drew;have S:=E.rule;have f2:=E.free;have d:=eT (fun j=>if j<k then s (frm j) else s j) D;refine az rfl rfl rfA (fun K f=> ?_);go_wp2_with fail;refine aq ?_;clear S f2;go_wp2_with fail;go_roundw
   case rel=>
    refine ⟨k+1,oA,gnA,B.drew.other _ _ O,?_,gF (jO N) k _⟩;exact (E.setF D (s (frm k))).ofF fun i _=>Wv (ft k (fun j=>s (frm j)) s) i
   case measure=>simp [intOf];omega
  .go_wp2_with fail;go_end0;obtain rfl:k=16:=oA;exact ⟨rfl,L.ofF fun i h=>by rw [trn,oL _ h,Vz h],N⟩
end
section
open Go.RowKit
attribute [local go_sem] dD dE dV cG
def NO (w:As) (gb H:Nat) (m s:Nat->BitVec 8) (f:Nat) (i:Value) (wr:As):Prop:=
 ∃k:Nat,f+k=16/\i= .int .i64 k/\Blk wr H (fA 4 m) 235/\Blk wr (H+1) (fA 16 s) 169/\Blk wr gb (fA 16 (fun j=>if j<k then mxs m s j 4 else s j)) 169/\w.grownBy wr (some gb)
def NY (w:As) (gb H k:Nat) (m s:Nat->BitVec 8) (f:Nat) (i:Value) (wr:As):Prop:=
 ∃q:Nat,f+q=4/\i= .int .i64 q/\Blk wr H (fA 4 m) 235/\Blk wr (H+1) (fA 16 s) 169/\Blk wr gb (fA 16 (fun j=>if j=k then mxs m s k q else if j<k then mxs m s j 4 else s j)) 169/\w.grownBy wr (some gb)
theorem Dr:Tryz.prog.arrayLen 169=16:=by kernel_rfl
theorem zL:Tryz.prog.elem 169=5:=by kernel_rfl
theorem Qn (b c:Nat) (hc:c<=12) (W:As):(Instr.sliceAt 169 (.pointer (some ⟨b,0,none⟩)) (some (.int .i64 (c:Int))) (some (.int .i64 ((c:Int)+4))) none).run prog W= .ok (.slice (some ⟨b,c,none⟩) 4 (16-c)) W:=by
 have B:Tryz.prog.underlying 169=some (.array (Tryz.prog.arrayLen 169) (Tryz.prog.elem 169)):=(by rw [Dr,zL];exact underlying169);have C:(sizeOf 5).run prog W= .ok 1 W:=by
  have:=xi;cases A:Tryz.prog.info? 5 with
  |none=>simp [A] at this
  |some i=>simp [A] at this;simp [sizeOf,typeInfo,A,this]
 rw [run_sliceAt_array_lh W _ _ B .i64 .i64 (c:Int) ((c:Int)+4) oA oA (by rw [Dr];omega),zL,C,Dr];have D:((c:Int)+4).toNat-c=4:=oA;have E:¬16=c:=oA;simp only [slicedAt,WE,WN,D,VV E,WA,Vr,VN]
theorem Nj (q k d:Nat) (A:q<4) (B:k<16) (C:d=(q+4-k%4)%4):(IntKind.i64.wrap (IntKind.i64.wrap ((q:Int)-(k:Int).tmod 4)+4)).tmod 4=(d:Int):=by
 rw [Wg (show (0:Int)<=(k:Int) by omega),VD ((q:Int)-(k:Int)%4) oA,VD _ oA,Wg oA];omega
theorem JI (A:Nat) (m s:Nat->BitVec 8) (w:As) (N:Blk w A (fA 16 s) 169):
  Calls prog 176 #[.pointer (some ⟨A,0,none⟩),.agg (fA 4 m)] w fun e w'=>
   e= .returned (.tuple #[])/\Blk w' A (fA 16 (mx m s)) 169/\w.grownBy w' (some A):=by
 have t:=N.lt;have O:=N.alloc (.cells (fA 4 m) 235);go_enter func176,ntmps176;go_wp2_with (first|refine ap rfl 169 ee _ rfl rfl O (aH _ _) ?_|refine ae rfl 169 ee (.tmp 4) _ rfl rfl rfl (Blk.new2' _ _ _ _) (aH _ _) rfl (fK _ _) ?_);refine ag (fun I=>Blk I w.heap.size (fA 4 m) 235/\Blk I (w.heap.size+1) (fA 16 s) 169/\Blk I A (fA 16 s) 169/\w.grownBy I (some A)) ⟨(Blk.new2 _ _ _ _).setRow_other _ _ oA,(Blk.new2' _ _ _ _).setRow _,(O.alloc _).setRow_other _ _ oA,ox (mo (mo (Wd _ _) _) _) oA _⟩ ?_;rintro w0 ⟨B,C,T,U⟩;obtain ⟨H,X⟩:=At w.heap.size;rw [<-X] at C B⊢;have V:H≠A:=oA;have S:H+1≠A:=oA;clear N t X O;go_loopg [11] 16 (NO w A H m s)
 case atStart=>exact ⟨0,oA,rfl,B,C,by simpa using T,U⟩
 case round=>
  clear C T U B;obtain ⟨k,hk,rfl,B,C,D,F⟩:=hrel;by_cases E:k<16
  .have tk:decide ((k:Int)<16)=true:=soA;have y:=D.rule;have f2:=D.free;have ck:=eT (fun j=>if j<k then mxs m s j 4 else s j) E;obtain ⟨c,hc⟩:=At (k/4*4);have A2:(k:Int)/4*4=(c:Int):=oA;have l:c<=12:=oA;have A0:(c:Int)+4<=16:=oA;have HC:=Hd hc;clear hc;have hcut:=Qn (H+1) c l;go_wp2_with fail;clear y f2;obtain ⟨g0,rfl⟩:∃g:Nat,g=gk:=⟨_,rfl⟩;go_loopg [27] 4 (NY w A H k m s)
   case atStart=>exact ⟨0,oA,rfl,B.other _ _ V,C.other _ _ S,D.setF E 0#8,gF F k _⟩
   case round=>
    clear B C D F;obtain ⟨q,J,rfl,B,C,D,F⟩:=hrel;by_cases o:q<4
    .obtain ⟨d,G⟩:=At ((q+4-k%4)%4);have A3:=Nj q k d o E G;have p:d<4:=oA;have A1:(d:Int)<4:=oA;have c1:=C.atF (show c+q<16 by omega) rfl;have HD:=Hd G;have f:=Hd J;clear G J;go_wp2_with fail;have C1:∀W,Old wr.drew W->W.cell? ⟨A,k,none⟩=some (.int .u8 (B8 (mxs m s k q))):=fun W h=>(D.drew.old h).atF E skA;have C2:∀W,Old wr.drew W->W.cell? ⟨H,d,none⟩=some (.int .u8 (B8 (m d))):=fun W h=>(B.drew.old h).atF p rfl;clear c1;have A4:(k:Int)<16:=oA;refine ah true Old Old.refl Old.trans (.step 0 (.step 1 (.step 2 (.step 3 (.step 4 (.step 5 (.step 6 (.step 7 (.step 8 (.step 9 (.step 10 (.step 11 (.step 12 (.step 13 (.step 16 (.step 14 (.step 15 (.step 17 (.step 18 .done))))))))))))))))))) krA krA cdA ?_
     repeat refine txA ?_
     refine am rfl rfl rfA (fun K R=> ?_);go_wp2_with fail;refine (mM (m d) (s (c+q)) _).mono ?_;rintro e w' ⟨rfl,rfl⟩;go_wp2_with fail;refine R _ _ (Old.refl _) ?_;clear R K
     repeat refine txA ?_
     have L:=D.drew;have r3:=L.rule;have f3:=L.free;have r:=eT (fun j=>if j=k then mxs m s k q else if j<k then mxs m s j 4 else s j) E;refine az rfl rfl rfA (fun K R=> ?_);go_wp2_with fail;refine aq ?_;clear r3 f3 r;go_wp2_with fail;go_roundg (gk-1)
     case rel=>
      have G:=HD.out;have J:=f.out;refine ⟨q+1,oA,gnA,B.drew.other _ _ V,C.drew.other _ _ S,?_,gF (jO F) k _⟩;refine (L.setF E (mxs m s k q^^^tim (m d) (s (c+q)))).ofF fun i _=> ?_;by_cases e:i=k
      .rw [Vz e,Vz e,mxs,<-G,<-HC.out]
      .rw [VV e,VV e,VV e]
     case measure=>have J:=f.out;omega
    .obtain rfl:q=4:=oA;go_wp2_with fail;go_roundg (g0-1)
     case rel=>exact ⟨k+1,oA,gnA,B,C,D.ofF fun i _=>Wv (ft k (fun j=>mxs m s j 4) s) i,F⟩
     case measure=>omega
  .go_wp2_with fail;go_end0;obtain rfl:k=16:=oA;exact ⟨rfl,D.ofF fun i h=>by rw [mx,oL _ h,Vz h],F⟩
end
section
open Go.RowKit
attribute [local go_sem] dD dE dV cG
def bn (k:Nat):BitVec 8:=BitVec.ofNat 8 k
theorem ng (a:BitVec 8):bn a.toNat=a:=by simp [bn]
theorem tp {k:Nat} (h:k<256):(bn k).toNat=k:=by simp [bn];omega
def cp (k m:Nat) (key:Nat->BitVec 8) (j:Nat):BitVec 8:=
 if j<256 then (if j<k then bx (bn j) else 0#8)
 else if j<512 then (if (un (bn (j-256))).toNat<k then un (bn (j-256)) else 0#8)
 else if j<512+m then rk key ((j-512)/16) ((j-512)%16) else 0#8
def cp1 (k:Nat) (key:Nat->BitVec 8) (j:Nat):BitVec 8:=if j=k then bx (bn k) else cp k 0 key j
theorem KB (k:Nat) (F:k<256) (E:Nat->BitVec 8):∀j,j<688->(if j=256+(bx (bn k)).toNat then bn k else cp1 k E j)=cp (k+1) 0 E j:=fun j I=>by
 have J:(bx (bn k)).toNat<256:=(bx (bn k)).isLt;unfold cp1 cp;by_cases B:j<256
 .rw [VV oA];by_cases C:j=k
  .subst C;rw [Vz rfl,Vz B,Vz oA]
  .rw [VV C,Vz B,Vz B];by_cases A:j<k
   .rw [Vz A,Vz oA]
   .rw [VV A,VV oA]
 .by_cases C:j<512
  .rw [VV (show ¬j=k by omega),VV B,Vz C,VV B,Vz C];have D:j=256+(bx (bn k)).toNat↔un (bn (j-256))=bn k:=by
    constructor
    .intro e;rw [e,YN,ng,PP]
    .intro e;have:=WS bx e;rw [Qo] at this;have A:=WS BitVec.toNat this;rw [tp oA] at A;omega
   by_cases e:j=256+(bx (bn k)).toNat
   .have G:=D.1 e;rw [Vz e,G,tp F,Vz oA]
   .rw [VV e];have G:¬(un (bn (j-256))).toNat=k:=fun q=>e (D.2 (Wx (by rw [q,tp F])));by_cases A:(un (bn (j-256))).toNat<k
    .rw [Vz A,Vz oA]
    .rw [VV A,VV oA]
  .simp [B,C,show ¬j=256+(bx (bn k)).toNat by omega,show ¬j=k by omega]
theorem KA (A:Nat->BitVec 8) (j:Nat):cp 0 0 A j=0#8:=by
 unfold cp;by_cases B:j<256<;>by_cases C:j<512<;>simp [B,C]
def cph (key:Nat->BitVec 8):Nat->BitVec 8:=cp 256 176 key
theorem Kz (A:Nat->BitVec 8) (i:Nat) (h:i<256):cph A i=bx (bn i):=by simp [cph,cp,h]
theorem Ky (A:Nat->BitVec 8) (r i:Nat) (B:r<11) (h:i<16):cph A (512+r*16+i)=rk A r i:=by
 simp only [cph,cp];rw [VV oA,VV oA,Vz oA,show (512+r*16+i-512)/16=r by omega,show (512+r*16+i-512)%16=i by omega]
theorem Ej:Tryz.prog.built 233 []=some (fA 688 fun _=>0#8):=by kernel_rfl
theorem wu {n o m:Nat} (s t:Nat->BitVec 8) (h:o+m<=n):cU (fA n s) o (fA m t)=fA n fun j=>if o<=j/\j<o+m then t (j-o) else s j:=by
 apply XA;intro j;simp only [cU,aH];have B:(List.take o (fA n s).toList++(fA m t).toList++List.drop (o+m) (fA n s).toList).toArray[j]? =(List.take o (fA n s).toList++((fA m t).toList++List.drop (o+m) (fA n s).toList))[j]? :=skA;rw [B];by_cases C:j<o
 .rw [Vo (by simp [aH];omega),WF C];have:=eT s (show j<n by omega);rw [<-WJ] at this;rw [this,eT _ oA,VV oA]
 .rw [Vw (by simp [aH];omega)];have e:(List.take o (fA n s).toList).length=o:=(by simp [aH];omega);rw [e];by_cases D:j<o+m
  .rw [Vo (by simp [aH];omega)];have:=eT t (show j-o<m by omega);rw [<-WJ] at this;rw [this,eT _ oA,Vz ⟨oA,D⟩]
  .rw [Vw (by simp [aH];omega),Wh];have E:o+m+(j-o-(fA m t).toList.length)=j:=(by simp [aH];omega);rw [E,WJ];by_cases A:j<n
   .rw [eT _ A,eT _ A,VV oA]
   .rw [Wz (by simp [aH];omega),Wz (by simp [aH];omega)]
theorem KC (B:Nat->BitVec 8):∀j,j<688->(if 512<=j/\j<512+16 then B (j-512) else cp 256 0 B j)=cp 256 16 B j:=fun j D=>by
 unfold cp;by_cases A:j<256
 .simp [A,show ¬512<=j by omega]
 .by_cases h2:j<512
  .simp [A,h2,show ¬512<=j by omega]
  .by_cases C:j<512+16
   .rw [Vz ⟨oA,C⟩,VV A,VV h2,Vz C,show (j-512)/16=0 by omega,rk,oL _ oA,show (j-512)%16=j-512 by omega]
   .simp [A,h2,C]
def tw (r:BitVec 8) (w:Nat->BitVec 8) (k c:Nat):BitVec 8:=if c<k then nkc r w c ((k-1-c)/4) else nk0 r w c
theorem IW (r:BitVec 8) (w:Nat->BitVec 8) (k:Nat):∀c,c<4->(if c=k%4 then tw r w k (k%4)^^^w k else tw r w k c)=tw r w (k+1) c:=fun c hc=>by
 by_cases e:c=k%4
 .rw [Vz e,<-e];unfold tw;by_cases h:c<k
  .rw [Vz h,Vz oA,show (k+1-1-c)/4=(k-1-c)/4+1 by omega,nkc,show 4*((k-1-c)/4+1)+c=k by omega]
  .rw [VV h,Vz oA,show (k+1-1-c)/4=0 by omega,nkc,show c=k by omega]
 .rw [VV e];unfold tw;by_cases h:c<k
  .rw [Vz h,Vz oA,show (k+1-1-c)/4=(k-1-c)/4 by omega]
  .rw [VV h,VV oA]
theorem Mb (A:Nat->BitVec 8) (i k:Nat) (B:k<16):tw (rc i) (rk A i) (k+1) (k%4)=rk A (i+1) k:=by
 rw [rk,nk,oL _ B];unfold tw;rw [Vz oA,show (k+1-1-k%4)/4=k/4 by omega]
theorem Nh (B:Nat->BitVec 8) (i k:Nat) (hi:i<11) (D:k<16):∀j,j<688->(if j=512+i*16+k then rk B i k else cp 256 (i*16+k) B j)=cp 256 (i*16+(k+1)) B j:=fun j E=>by
 unfold cp;by_cases A:j<256
 .simp [A,show ¬j=512+i*16+k by omega]
 .by_cases h2:j<512
  .simp [A,h2,show ¬j=512+i*16+k by omega]
  .by_cases e:j=512+i*16+k
   .rw [Vz e,VV A,VV h2,Vz oA,show (j-512)/16=i by omega,show (j-512)%16=k by omega]
   .rw [VV e,VV A,VV h2,VV A,VV h2];by_cases C:j<512+(i*16+k)
    .rw [Vz C,Vz oA]
    .rw [VV C,VV oA]
theorem Kv {n:Nat} {s t:Nat->BitVec 8} (h:∀i,i<n->s i=t i):fL n s=fL n t:=by
 unfold fL;apply WQ;intro i hi;rw [h i (Wk.1 hi)]
theorem yf {n o m:Nat} (s:Nat->BitVec 8) (h:o+m<=n):((fA n s).toList.drop o).take m=fL m fun j=>s (o+j):=by
 apply Yi;intro j;by_cases A:j<m
 .rw [WF A,Wh,WJ,eT _ oA];simp [fL,A,fv]
 .rw [WK soA,WK (by simp [fL];omega)]
theorem Ng (A:Nat->BitVec 8) (m:Nat):∀j,j<16->cp 256 ((m+1)*16) A (512+m*16+j)=rk A m j:=fun j B=>by
 unfold cp;rw [VV oA,VV oA,Vz oA,show (512+m*16+j-512)/16=m by omega,show (512+m*16+j-512)%16=j by omega]
theorem Ni (m:Nat) (A:Nat->BitVec 8) (a:BitVec 8):cp 256 m A a.toNat=bx a:=by
 have:=a.isLt;unfold cp;rw [Vz this,Vz this,ng]
def NR (w:As) (H:Nat) (key:Nat->BitVec 8) (f:Nat) (i r:Value) (wr:As):Prop:=
 ∃n:Nat,f+n=11/\1<=n/\i= .int .i64 n/\r= .int .u8 (B8 (rc (n-1)))/\Blk wr (H+1) (fA 688 (cp 256 (n*16) key)) 233/\Below H w wr
def KU (w:As) (H G n m:Nat) (key:Nat->BitVec 8) (f:Nat) (i:Value) (wr:As):Prop:=
 ∃k:Nat,f+k=16/\i= .int .i64 k/\Blk wr (H+1) (fA 688 (cp 256 (n*16+k) key)) 233/\Blk wr G (fA 16 (rk key m)) 169/\Blk wr (G+1) (fA 4 (tw (rc m) (rk key m) k)) 235/\Below H w wr
theorem Oi (r:BitVec 8) (w:Nat->BitVec 8):cU #[.int .u8 0,.int .u8 0,.int .u8 0,.int .u8 0] 0 #[.int .u8 (B8 (bx (w 13)^^^r)),.int .u8 (B8 (bx (w 14))),.int .u8 (B8 (bx (w 15))),.int .u8 (B8 (bx (w 12)))]=fA 4 (tw r w 0):=by
 have h:fA 4 (tw r w 0)= #[fv (tw r w 0 0),fv (tw r w 0 1),fv (tw r w 0 2),fv (tw r w 0 3)]:=rfl;rw [h];simp [cU,tw,nk0,fv]
theorem PR (k:Nat):((k:Int)).tmod 4=((k%4:Nat):Int):=by rw [Wg oA];omega
theorem CJ (A:Nat->BitVec 8) (w:As):
  Calls prog 140 #[.agg (fA 16 A)] w fun e w'=>∃g,e= .returned (.pointer (some ⟨g,0,none⟩))/\w.heap.size<=g/\Blk w' g (fA 688 (cph A)) 233/\Below w.heap.size w w':=by
 have c0:(Tryz.prog.built 233 []).getD #[]=fA 688 (cp 0 0 A):=(by rw [Ej];exact uz fun i _=>(KA A i).symm);have C0:=Hd c0;clear c0;go_enter func140,ntmps140;go_wp2_with (refine wpList_build rfl 233 #[] rfl (by simp [Ej]) ?_);rw [C0.out];refine ag (fun F=>Blk F w.heap.size (fA 16 A) 169/\Blk F (w.heap.size+1) (fA 688 (cp 0 0 A)) 233/\Below w.heap.size w F) ⟨Blk.new2 _ _ _ _,Blk.new2' _ _ _ _,cL⟩ ?_;rintro w0 ⟨q,r,s⟩;obtain ⟨H,hH⟩:=At w.heap.size;rw [<-hH] at q r s⊢;have HH:=Hd hH;clear hH C0;go_loopw [12] (fun i wr=>∃k:Nat,k<=256/\i= .int .i64 k/\Blk wr H (fA 16 A) 169/\Blk wr (H+1) (fA 688 (cp k 0 A)) 233/\Below H w wr) (fun i _=>256-(intOf i).toNat)
 case atStart=>exact ⟨0,oA,rfl,q,r,s⟩
 case round=>
  clear q r s;obtain ⟨k,hk,rfl,I,C,E⟩:=hrel;by_cases S:k<256
  .have tk:decide ((k:Int)<256)=true:=soA;go_wp2_with fail;have hw:IntKind.u8.wrap (k:Int)=B8 (bn k):=(by rw [ZR _ oA];exact pA k S);have B0:(k:Int)<256:=oA;refine ah true Old Old.refl Old.trans (.step 0 (.step 1 (.step 2 (.step 3 (.step 5 (.step 6 (.step 4 (.step 7 (.step 8 .done))))))))) krA krA cdA ?_
   repeat refine txA ?_
   refine am rfl rfl rfA (fun K I=> ?_);go_wp2_with fail;refine (KJ (bn k) _).mono ?_;rintro e w' ⟨rfl,rfl⟩;go_wp2_with fail;refine I _ _ (Old.refl _) ?_;clear I K
   repeat refine txA ?_
   have L:=C.drew;have U:=L.rule;have f3:=L.free;have T:=eT (cp k 0 A) (show k<688 by omega);refine az rfl rfl rfA (fun K I=> ?_);go_wp2_with fail;refine aq ?_;clear U f3 T hw;go_upto_region 6 with fail;have O:Blk (wr.drew.setCell ⟨H+1,k,none⟩ (.int .u8 (B8 (bx (bn k))))) (H+1) (fA 688 (cp1 k A)) 233:=(L.setF (show k<688 by omega) (bx (bn k))).ofF fun i _=>rfl;have A2:=I.drew.other ⟨H+1,k,none⟩ (.int .u8 (B8 (bx (bn k)))) skA;have R:Below H w (wr.drew.setCell ⟨H+1,k,none⟩ (.int .u8 (B8 (bx (bn k))))):=E.drew.setCell skA _;refine ag (fun F=>Blk F H (fA 16 A) 169/\Blk F (H+1) (fA 688 (cp1 k A)) 233/\Below H w F) ⟨A2,O,R⟩ ?_;clear I C E A2 O R L;rintro w2 ⟨I,C,E⟩;have r2:=kK (bx (bn k));have r4:=rs (bx (bn k));have r5:=gL (bx (bn k));have hw:IntKind.u8.wrap (k:Int)=B8 (bn k):=(by rw [ZR _ oA];exact pA k S);have C1:∀W,Old w2.drew W->W.cell? ⟨H+1,k,none⟩=some (.int .u8 (B8 (bx (bn k)))):=fun W h=>(C.drew.old h).atF oA (by simp [cp1]);refine ah true Old Old.refl Old.trans (.step 0 (.step 1 (.step 2 (.step 3 (.step 4 (.step 5 (.step 6 (.step 7 (.step 8 (.step 9 (.step 10 (.step 11 (.step 12 .done))))))))))))) krA krA cdA ?_
   repeat refine txA ?_
   have L:=C.drew;have U:=L.rule;have f3:=L.free;have A0:256+(bx (bn k)).toNat<688:=(by have:=(bx (bn k)).isLt;omega);have T:=eT (cp1 k A) A0;refine az rfl rfl rfA (fun K I=> ?_);go_wp2_with fail;refine aq ?_;clear U f3 T hw C1 r2 r4 r5;go_wp2_with fail;go_roundw
   case rel=>exact ⟨k+1,oA,gnA,I.drew.other _ _ skA,(L.setF A0 (bn k)).ofF (KB k S A),E.drew.setCell skA _⟩
   case measure=>simp [intOf];omega
  .obtain rfl:k=256:=oA;have tk:decide (((256:Nat):Int)<256)=false:=skA;go_wp2_with fail;have A3:=fun W (h:Old wr.drew W)=>(I.drew.old h);refine ah true Old Old.refl Old.trans (.step 0 (.step 1 (.step 2 (.step 3 (.step 4 (.step 5 .done)))))) krA krA cdA ?_
   repeat refine txA ?_
   refine bM (v:= .agg (fA 16 A)) rfl rfl rfA (fun W J=>aI 169 ee _ rfl rfl rfl (A3 W J).cells (dh _ _)) ?_;simp only [Act.put,sTA,List.set]
   repeat refine txA ?_
   clear A3;have L:=C.drew;refine az rfl rfl rfA (fun K I=> ?_);refine bq 169 ee _ _ rfl rfl rfl L (aH _ _) (by simp [aH]) (fK _ _) ?_;refine I _ _ ?_;clear I K;refine aq ?_;have O:=(L.setRow (cU (fA 688 (cp 256 0 A)) 512 (fA 16 A)));rw [wu _ _ oA] at O⊢;have A4:=O.ofF (KC A);have A5:=ak (B:=H) (g:=H+1) (E.drew) oA (fA 688 fun j=>if 512<=j/\j<512+16 then A (j-512) else cp 256 0 A j);clear O L I C E;go_upto_region 9 with fail;refine ag (fun F=>Blk F (H+1) (fA 688 (cp 256 16 A)) 233/\Below H w F) ⟨A4,A5⟩ ?_;clear A4 A5;rintro w2 ⟨C,E⟩;go_wp2_with fail;go_loopg [6,5] 10 (NR w H A)
   case atStart=>exact ⟨1,oA,oA,rfl,rfl,C,E⟩
   case round=>
    clear C E;obtain ⟨n,V,D3,rfl,rfl,C,E⟩:=hrel;by_cases hn:n<11
    .have tn:decide ((n:Int)<11)=true:=soA;obtain ⟨m,o⟩:∃m,n=m+1:=⟨n-1,oA⟩;have B1:(n:Int)-1=(m:Int):=oA;have BY:(m:Int)<11:=oA;have B2:(0:Int)<=(m:Int):=oA;rw [show n-1=m by omega];have HM:=Hd o;have t:=C;rw [o] at t;have A6:=Hd V;clear o V;go_wp2_with (first|refine dC rfl 169 ee _ rfl rfl t (part:=fL 16 (rk A m)) (by rw [yf _ oA];exact Kv (Ng A m)) (dh _ _) ?_|refine ae rfl 169 ee (.tmp 7) _ (cells:=fA 16 (rk A m)) rfl rfl rfl (Blk.new _ _ _) (aH _ _) rfl (fK _ _) ?_);obtain ⟨G,d⟩:=At wr.heap.size;have D4:H+1<G:=(by rw [d];exact C.lt);rw [<-d];have A7:Blk (wr.alloc (.cells #[.int .u8 0,.int .u8 0,.int .u8 0,.int .u8 0,.int .u8 0,.int .u8 0,.int .u8 0,.int .u8 0,.int .u8 0,.int .u8 0,.int .u8 0,.int .u8 0,.int .u8 0,.int .u8 0,.int .u8 0,.int .u8 0] 169)) G #[.int .u8 0,.int .u8 0,.int .u8 0,.int .u8 0,.int .u8 0,.int .u8 0,.int .u8 0,.int .u8 0,.int .u8 0,.int .u8 0,.int .u8 0,.int .u8 0,.int .u8 0,.int .u8 0,.int .u8 0,.int .u8 0] 169:=(by rw [d];exact Blk.new _ _ _);refine ag (fun F=>Blk F (H+1) (fA 688 (cp 256 (n*16) A)) 233/\Blk F G (fA 16 (rk A m)) 169/\Below H w F/\F.heap.size=G+1) ⟨(C.alloc _).setRow_other _ _ oA,A7.setRow _,ak (E.alloc oA _) oA _,by simp [<-d]⟩ ?_;clear A7 C t E d;rintro w3 ⟨C,J,E,A8⟩;have B3:=kK (rk A m 13);have B4:=rs (rk A m 13);have B5:=gL (rk A m 13);have B6:=kK (rk A m 14);have B7:=rs (rk A m 14);have B9:=gL (rk A m 14);have CK:=kK (rk A m 15);have CW:=rs (rk A m 15);have C3:=gL (rk A m 15);have C4:=kK (rk A m 12);have C5:=rs (rk A m 12);have C6:=gL (rk A m 12);have C7:∀W,Old w3.drew W->W.cell? ⟨G,13,none⟩=some (.int .u8 (B8 (rk A m 13))):=fun W h=>(J.drew.old h).atF oA rfl;have C8:∀W,Old w3.drew W->W.cell? ⟨G,14,none⟩=some (.int .u8 (B8 (rk A m 14))):=fun W h=>(J.drew.old h).atF oA rfl;have C9:∀W,Old w3.drew W->W.cell? ⟨G,15,none⟩=some (.int .u8 (B8 (rk A m 15))):=fun W h=>(J.drew.old h).atF oA rfl;have DO:∀W,Old w3.drew W->W.cell? ⟨G,12,none⟩=some (.int .u8 (B8 (rk A m 12))):=fun W h=>(J.drew.old h).atF oA rfl;have D:∀(x:BitVec 8) W,Old w3.drew W->W.cell? ⟨H+1,x.toNat,none⟩=some (.int .u8 (B8 (bx x))):=fun x W h=>(C.drew.old h).atF (by have:=x.isLt;omega) (Ni _ _ _);clear B1 BY B2
     refine ah true Old Old.refl Old.trans (.step 0 (.step 1 (.step 2 (.step 3 (.step 4 (.step 5 (.step 6 (.step 7 (.step 8 (.step 9 (.step 10 (.step 11 (.step 12 (.step 13 (.step 14 (.step 15 (.step 16 (.step 17 (.step 18 (.step 19 (.step 20 (.step 21 (.step 22 (.step 23 (.step 24 (.step 25 (.step 26 (.step 27 (.step 28 (.step 29 (.step 30 (.step 31 (.step 32 .done))))))))))))))))))))))))))))))))) krA krA cdA ?_
     repeat refine txA ?_
     refine am rfl rfl rfA (fun K I=> ?_);go_wp2_with fail;refine I _ _ ((VW _ _).alloc (VU _) _) ?_;clear I K;clear C4 B3 B6 CK C5 B4 B7 CW C6 B5 B9 C3 D DO C7 C8 C9;have p:w3.drew.heap.size=G+1:=A8;have y:Blk (w3.drew.alloc (.cells #[.int .u8 0,.int .u8 0,.int .u8 0,.int .u8 0] 235)) (G+1) #[.int .u8 0,.int .u8 0,.int .u8 0,.int .u8 0] 235:=(by rw [<-p];exact Blk.new _ _ _);rw [p] at*;refine az rfl rfl rfA (fun K I=> ?_);refine bq 235 Lr _ _ rfl rfl rfl y rfl skA rfl ?_;refine I _ _ ?_;clear I K;refine aq ?_;have N:=y.setRow (cU #[.int .u8 0,.int .u8 0,.int .u8 0,.int .u8 0] 0 #[.int .u8 (B8 (bx (rk A m 13)^^^rc m)),.int .u8 (B8 (bx (rk A m 14))),.int .u8 (B8 (bx (rk A m 15))),.int .u8 (B8 (bx (rk A m 12)))]);rw [Oi] at N⊢;have O:=(C.drew.alloc (.cells #[.int .u8 0,.int .u8 0,.int .u8 0,.int .u8 0] 235)).setRow_other (G+1) (fA 4 (tw (rc m) (rk A m) 0)) oA;have X:=(J.drew.alloc (.cells #[.int .u8 0,.int .u8 0,.int .u8 0,.int .u8 0] 235)).setRow_other (G+1) (fA 4 (tw (rc m) (rk A m) 0)) oA;have R:=ak (B:=H) (g:=G+1) (E.drew.alloc (by have e:w3.drew.heap.size=w3.heap.size:=rfl;omega) (.cells #[.int .u8 0,.int .u8 0,.int .u8 0,.int .u8 0] 235)) oA (fA 4 (tw (rc m) (rk A m) 0));go_upto_region 15 with fail;refine ag (fun F=>Blk F (H+1) (fA 688 (cp 256 (n*16) A)) 233/\Blk F G (fA 16 (rk A m)) 169/\Blk F (G+1) (fA 4 (tw (rc m) (rk A m) 0)) 235/\Below H w F) ⟨O,X,N,R⟩ ?_;clear O X N R y A8 p C J E;rintro w4 ⟨C,J,N,E⟩;go_wp2_with (go_at_call 169;refine (mM (rc m) 2#8 _).mono ?_;rintro e w' ⟨rfl,rfl⟩);obtain ⟨g0,rfl⟩:∃g:Nat,g=gk:=⟨_,rfl⟩;go_loopg [85] 16 (KU w H G n m A)
     case atStart=>exact ⟨0,oA,rfl,C,J,N,E⟩
     case round=>
      clear C J N E;obtain ⟨k,V,rfl,C,J,N,E⟩:=hrel;by_cases S:k<16
      .have HF:=Hd V;clear V;have tk:decide ((k:Int)<16)=true:=soA;go_wp2_with fail;obtain ⟨c,hc⟩:=At (k%4);have f:c<4:=oA;have D5:(c:Int)<4:=oA;have D6:(0:Int)<=(c:Int):=oA;have D0:((k:Int)).tmod 4=(c:Int):=(by rw [hc];exact PR k);have B0:(k:Int)<16:=oA;have HC:=Hd hc;clear hc;have C1:∀W,Old wr.drew W->W.cell? ⟨G+1,c,none⟩=some (.int .u8 (B8 (tw (rc m) (rk A m) k c))):=fun W h=>(N.drew.old h).atF f rfl;have C2:∀W,Old wr.drew W->W.cell? ⟨G,k,none⟩=some (.int .u8 (B8 (rk A m k))):=fun W h=>(J.drew.old h).atF S rfl;refine ah true Old Old.refl Old.trans (.step 0 (.step 1 (.step 2 (.step 3 (.step 4 (.step 5 (.step 6 (.step 7 (.step 8 (.step 9 .done)))))))))) krA krA cdA ?_
       repeat refine txA ?_
       have l:=N.drew;have U:=l.rule;have f3:=l.free;have T:=eT (tw (rc m) (rk A m) k) f;refine az rfl rfl rfA (fun K I=> ?_);go_wp2_with fail;refine aq ?_;clear U f3 T C1 C2;have A9:Blk _ (G+1) (fA 4 (tw (rc m) (rk A m) (k+1))) 235:=(l.setF f (tw (rc m) (rk A m) k c^^^rk A m k)).ofF (by rw [HC.out];exact IW (rc m) (rk A m) k);have O:=C.drew.other ⟨G+1,c,none⟩ (.int .u8 (B8 (tw (rc m) (rk A m) k c^^^rk A m k))) (by show H+1≠G+1;omega);have X:=J.drew.other ⟨G+1,c,none⟩ (.int .u8 (B8 (tw (rc m) (rk A m) k c^^^rk A m k))) (by show G≠G+1;omega);have R:Below H w (wr.drew.setCell ⟨G+1,c,none⟩ (.int .u8 (B8 (tw (rc m) (rk A m) k c^^^rk A m k)))):=E.drew.setCell (by show H<=G+1;omega) _;go_upto_region 20 with fail;refine ag (fun F=>Blk F (H+1) (fA 688 (cp 256 (n*16+k) A)) 233/\Blk F G (fA 16 (rk A m)) 169/\Blk F (G+1) (fA 4 (tw (rc m) (rk A m) (k+1))) 235/\Below H w F) ⟨O,X,A9,R⟩ ?_;clear O X A9 R l C J N E;rintro w5 ⟨C,J,N,E⟩;have D1:∀W,Old w5.drew W->W.cell? ⟨G+1,c,none⟩=some (.int .u8 (B8 (rk A n k))):=fun W h=>(N.drew.old h).atF f (by rw [HC.out,HM.out];exact Mb A m k S);have D7:(n:Int)<11:=oA;refine ah true Old Old.refl Old.trans (.step 0 (.step 1 (.step 2 (.step 3 (.step 4 (.step 5 (.step 6 (.step 7 (.step 8 (.step 9 (.step 10 (.step 11 .done)))))))))))) krA krA cdA ?_
       repeat refine txA ?_
       have L:=C.drew;have U:=L.rule;have f3:=L.free;have A1:512+n*16+k<688:=oA;have T:=eT (cp 256 (n*16+k) A) A1;refine az rfl rfl rfA (fun K I=> ?_);go_wp2_with fail;refine aq ?_;clear U f3 T D1 D0;go_wp2_with fail;go_roundg (gk-1)
       case rel=>
        have V:=HF.out;exact ⟨k+1,oA,gnA,(L.setF A1 (rk A n k)).ofF (Nh A n k hn S),J.drew.other _ _ (by show G≠H+1;omega),N.drew.other _ _ (by show G+1≠H+1;omega),E.drew.setCell (by show H<=H+1;omega) _⟩
       case measure=>have V:=HF.out;omega
      .obtain rfl:k=16:=oA;have tk:decide (((16:Nat):Int)<16)=false:=skA;go_wp2_with fail;go_roundg (g0-1)
       case rel=>
        have o:=HM.out;have D2:=A6.out;exact ⟨n+1,oA,oA,gnA,by rw [show n+1-1=m+1 by omega];rfl,C.ofF fun i _=>by rw [XV,Nat.one_mul],E⟩
       case measure=>have D2:=A6.out;omega
    .obtain rfl:n=11:=oA;have tn:decide (((11:Nat):Int)<11)=false:=skA;go_wp2_with fail;go_ret;rw [HH.out] at E C⊢;exact ⟨w.heap.size+1,rfl,oA,C.ofF fun i _=>rfl,E⟩
end
section
open Go.RowKit
attribute [local go_sem] dD dE dV cG
theorem PT (s:Nat->BitVec 8):(tb 16 fun j=>bx (bn (s j).toNat))=thr bx s:=PS fun j _=>by rw [ng]
theorem Al (A B:Nat) (s C:Nat->BitVec 8) (w:As) (D:Blk w A (fA 16 s) 169) (E:Blk w B (fA 688 (cph C)) 233):
  Calls prog 172 #[.pointer (some ⟨A,0,none⟩),.pointer (some ⟨B,0,none⟩)] w fun e w'=>
   e= .returned (.tuple #[])/\Blk w' A (fA 16 (thr bx s)) 169/\w.grownBy w' (some A):=by
 have:=xl A B 0 s (fun i=>bx (bn i)) w D (Blk.ne D E dcA) (fun i hi=>by rw [VN];exact E.atF oA (Kz C i hi));rw [PT] at this;exact this
theorem Hu (A C r:Nat) (s B:Nat->BitVec 8) (w:As) (D:r<11) (E:Blk w A (fA 16 s) 169) (F:Blk w C (fA 688 (cph B)) 233):
  Calls prog 170 #[.pointer (some ⟨C,0,none⟩),.pointer (some ⟨A,0,none⟩),.int .i64 (r:Int)] w fun e w'=>
   e= .returned (.tuple #[])/\Blk w' A (fA 16 (sx s (rk B r))) 169/\w.grownBy w' (some A):=
 JV A C r s (rk B r) w E (Blk.ne E F dcA) D (fun i hi=>F.atF oA (Ky B r i D hi))
theorem Cn (A B D:Nat) (s C:Nat->BitVec 8) (w:As) (E:Blk w A (fA 16 s) 169) (F:Blk w B (fA 688 (cph C)) 233) (J:w.cell? ⟨D,0,none⟩=some (.pointer (some ⟨B,0,none⟩))):
  Calls prog 171 #[.pointer (some ⟨A,0,none⟩),.pointer (some ⟨D,0,none⟩)] w fun e w'=>
   e= .returned (.tuple #[])/\Blk w' A (fA 16 (thr bx s)) 169/\w.grownBy w' (some A):=by
 go_enter func171,ntmps171;go_wp2_with (go_at_call 172;refine (Al A B s C _ E F).mono ?_;rintro e w' ⟨rfl,G,I⟩);go_end0;exact ⟨rfl,G,I⟩
theorem Cm (A:Nat) (s:Nat->BitVec 8) (w:As) (B:Blk w A (fA 16 s) 169):
  Calls prog 173 #[.pointer (some ⟨A,0,none⟩)] w fun e w'=>
   e= .returned (.tuple #[])/\Blk w' A (fA 16 (trn s)) 169/\w.grownBy w' (some A):=by
 go_enter func173,ntmps173;go_wp2_with (go_at_call 174;refine (Aj A s _ B).mono ?_;rintro e w' ⟨rfl,C,D⟩);go_end0;exact ⟨rfl,C,D⟩
theorem Cl (A B r:Nat) (s:Nat->BitVec 8) (w:As) (C:Blk w A (fA 16 s) 169) (F:w.cell? ⟨B,0,none⟩=some (.int .i64 (r:Int))):
  Calls prog 175 #[.pointer (some ⟨B,0,none⟩),.pointer (some ⟨A,0,none⟩)] w fun e w'=>
   e= .returned (.tuple #[])/\Blk w' A (fA 16 (if r<10 then mx mE s else s)) 169/\w.grownBy w' (some A):=by
 by_cases h:r<10
 .have t:decide ((r:Int)<10)=true:=soA;rw [Vz h];go_enter func175,ntmps175;go_wp2_with (go_at_call 176;refine (JI A mE s _ C).mono ?_;rintro e w' ⟨rfl,D,E⟩);go_end0;exact ⟨rfl,D,E⟩
 .have t:decide ((r:Int)<10)=false:=soA;rw [VV h];go_enter func175,ntmps175;go_wp2_with fail;go_end0;exact ⟨rfl,C,Wd _ _⟩
theorem Ck (A C D E r:Nat) (s B:Nat->BitVec 8) (w:As) (F:r<11) (G:Blk w A (fA 16 s) 169) (I:Blk w C (fA 688 (cph B)) 233) (N:w.cell? ⟨D,0,none⟩=some (.pointer (some ⟨C,0,none⟩))) (O:w.cell? ⟨E,0,none⟩=some (.int .i64 (r:Int))):
  Calls prog 177 #[.pointer (some ⟨D,0,none⟩),.pointer (some ⟨A,0,none⟩),.pointer (some ⟨E,0,none⟩)] w fun e w'=>
   e= .returned (.tuple #[])/\Blk w' A (fA 16 (sx s (rk B r))) 169/\w.grownBy w' (some A):=by
 go_enter func177,ntmps177;go_wp2_with (go_at_call 170;refine (Hu A C r s B _ F G I).mono ?_;rintro e w' ⟨rfl,J,L⟩);go_end0;exact ⟨rfl,J,L⟩
def ins (key:Nat->BitVec 8) (r:Nat) (s:Nat->BitVec 8):Nat->Nat->BitVec 8
 |0=>s
 |1=>thr bx s
 |2=>trn (thr bx s)
 |3=>if r<10 then mx mE (trn (thr bx s)) else trn (thr bx s)
 |_=>rnd key r s
structure EO (w:As) (H gc n R:Nat) (key t:Nat->BitVec 8) (wr:As):Prop where
 pos:H+3<=R
 cell:Blk wr R #[.int .i64 (n:Int)] 3
 ptr:Blk wr H #[.pointer (some ⟨gc,0,none⟩)] 201
 blk:Blk wr (H+1) (fA 16 t) 169
 res:∃z:AS,z.size=16/\Blk wr (H+2) z 169
 key:Blk wr gc (fA 688 (cph key)) 233
 bel:Below H w wr
theorem EO.step {w:As} {H B n R:Nat} {C t u:Nat->BitVec 8} {wr w':As} (h:EO w H B n R C t wr) (O:B<H) (D:Blk w' (H+1) (fA 16 u) 169) (A:wr.grownBy w' (some (H+1))):EO w H B n R C u w':=by
 obtain ⟨E,hc,F,S,⟨z,G,I⟩,J,L⟩:=h;have N:H<=wr.heap.size:=(by have:=hc.lt;omega);exact ⟨E,hc.grown A soA,F.grown A skA,D,⟨z,G,I.grown A skA⟩,J.grown A soA,nZ L N A oA⟩
def GR (w:As) (H gc:Nat) (key s:Nat->BitVec 8) (f:Nat) (p:Value) (wr:As):Prop:=
 ∃n R:Nat,f+n=11/\1<=n/\p= .pointer (some ⟨R,0,none⟩)/\EO w H gc n R key (bt key s (n-1)) wr
def NT (w:As) (H gc n R:Nat) (key t:Nat->BitVec 8) (f:Nat) (i:Value) (wr:As):Prop:=
 ∃k:Nat,f+k=4/\i= .int .i64 (k:Int)/\EO w H gc n R key (ins key n t k) wr
theorem pq:(Tryz.prog.info? 1).map (·.size)=some 1:=by kernel_rfl
theorem Bz (C:Nat) (s B:Nat->BitVec 8) (w:As) (j:Blk w C (fA 688 (cph B)) 233):
  Calls prog 141 #[.pointer (some ⟨C,0,none⟩),.agg (fA 16 s)] w fun e w'=>
   e= .returned (.agg (fA 16 (enc B s)))/\Below w.heap.size w w':=by
 have J:=j.lt;go_enter func141,ntmps141;go_wp2_with fail;refine (Hu (w.heap.size+1) C 0 s B _ oA ((Blk.new2' _ _ _ _).alloc _) (((j.alloc _).alloc _).alloc _)).mono ?_;rintro e w1 ⟨rfl,U,G⟩;obtain ⟨H,l⟩:=At w.heap.size;have r:=(((j.alloc _).alloc _).alloc _).grown G soA;have V:Blk w1 w.heap.size #[.pointer (some ⟨C,0,none⟩)] 201:=(Blk.new3 w _ _ _ _).grown G skA;have X:∃z:AS,z.size=16/\Blk w1 (w.heap.size+2) z 169:=⟨_,rfl,(Blk.new3'' w #[.int .u8 0,.int .u8 0,.int .u8 0,.int .u8 0,.int .u8 0,.int .u8 0,.int .u8 0,.int .u8 0,.int .u8 0,.int .u8 0,.int .u8 0,.int .u8 0,.int .u8 0,.int .u8 0,.int .u8 0,.int .u8 0] _ _ _).grown G skA⟩;have d:Below w.heap.size w w1:=nZ ((((VW w.heap.size w).alloc (VU _) _).alloc skA _).alloc soA _) soA G oA;have f:w.heap.size+3<=w1.heap.size:=(by have:=G.size;simp at this;omega);clear G;rw [<-l] at U V X d f J⊢;have HH:=Hd l;clear l;go_wp2_with fail;go_loopg [5] 10 (GR w H C B s)
 case atStart=>
  obtain ⟨z,L,I⟩:=X;exact ⟨1,_,oA,oA,rfl,f,Blk.new _ _ _,V.alloc _,U.alloc _,⟨z,L,I.alloc _⟩,r.alloc _,d.alloc oA _⟩
 case round=>
  clear U V X d f r;obtain ⟨n,R,N,A2,rfl,A⟩:=hrel;have F:=A.cell.rule 0;by_cases hn:n<11
  .have tn:decide ((n:Int)<=10)=true:=soA;obtain ⟨t,o⟩:=At (bt B s (n-1));rw [<-o] at A;have HT:=Hd o;have HF:=Hd N;clear o N;go_wp2_with fail;clear F;obtain ⟨g0,rfl⟩:∃g:Nat,g=gk:=⟨_,rfl⟩;go_loopg [19] 4 (NT w H C n R B t)
   case atStart=>exact ⟨0,oA,rfl,A⟩
   case round=>
    clear A;obtain ⟨k,N,rfl,A⟩:=hrel;by_cases S:k<4
    .have hcs:k=0\/k=1\/k=2\/k=3:=oA;have q:wr.cell? ⟨H,0,none⟩=some (.pointer (some ⟨C,0,none⟩)):=A.ptr.cell rfl;have F:wr.cell? ⟨R,0,none⟩=some (.int .i64 (n:Int)):=A.cell.cell rfl;have y:=Hd q;have A0:=Hd F;clear q F;rcases hcs with rfl|rfl|rfl|rfl
     .have hix:∀W:World,(Instr.index 243 (.agg #[Value.func (Fn.func 171) #[] #[.pointer (some ⟨H+1,0,none⟩),.pointer (some ⟨H,0,none⟩)],Value.func (Fn.func 173) #[] #[.pointer (some ⟨H+1,0,none⟩)],Value.func (Fn.func 175) #[] #[.pointer (some ⟨R,0,none⟩),.pointer (some ⟨H+1,0,none⟩)],Value.func (Fn.func 177) #[] #[.pointer (some ⟨H,0,none⟩),.pointer (some ⟨H+1,0,none⟩),.pointer (some ⟨R,0,none⟩)]]) (.int .i64 0)).run prog W= .ok (Value.func (Fn.func 171) #[] #[.pointer (some ⟨H+1,0,none⟩),.pointer (some ⟨H,0,none⟩)]) W:=fun W=>eG (P:=prog) (kk:= .i64) underlying243 underlying1 rfl pq W _ 0 _ rfl oA;go_wp2_with (go_at_call 171;refine (Cn (H+1) C H (ins B n t 0) B _ A.blk A.key y.out).mono ?_;rintro e w' ⟨rfl,D,E⟩);go_roundg (gk-1)
      case rel=>exact ⟨1,oA,rfl,A.step J D E⟩
      case measure=>omega
     .have hix:∀W:World,(Instr.index 243 (.agg #[Value.func (Fn.func 171) #[] #[.pointer (some ⟨H+1,0,none⟩),.pointer (some ⟨H,0,none⟩)],Value.func (Fn.func 173) #[] #[.pointer (some ⟨H+1,0,none⟩)],Value.func (Fn.func 175) #[] #[.pointer (some ⟨R,0,none⟩),.pointer (some ⟨H+1,0,none⟩)],Value.func (Fn.func 177) #[] #[.pointer (some ⟨H,0,none⟩),.pointer (some ⟨H+1,0,none⟩),.pointer (some ⟨R,0,none⟩)]]) (.int .i64 1)).run prog W= .ok (Value.func (Fn.func 173) #[] #[.pointer (some ⟨H+1,0,none⟩)]) W:=fun W=>eG (P:=prog) (kk:= .i64) underlying243 underlying1 rfl pq W _ 1 _ rfl oA;go_wp2_with (go_at_call 173;refine (Cm (H+1) (ins B n t 1) _ A.blk).mono ?_;rintro e w' ⟨rfl,D,E⟩);go_roundg (gk-1)
      case rel=>exact ⟨2,oA,rfl,A.step J D E⟩
      case measure=>omega
     .have hix:∀W:World,(Instr.index 243 (.agg #[Value.func (Fn.func 171) #[] #[.pointer (some ⟨H+1,0,none⟩),.pointer (some ⟨H,0,none⟩)],Value.func (Fn.func 173) #[] #[.pointer (some ⟨H+1,0,none⟩)],Value.func (Fn.func 175) #[] #[.pointer (some ⟨R,0,none⟩),.pointer (some ⟨H+1,0,none⟩)],Value.func (Fn.func 177) #[] #[.pointer (some ⟨H,0,none⟩),.pointer (some ⟨H+1,0,none⟩),.pointer (some ⟨R,0,none⟩)]]) (.int .i64 2)).run prog W= .ok (Value.func (Fn.func 175) #[] #[.pointer (some ⟨R,0,none⟩),.pointer (some ⟨H+1,0,none⟩)]) W:=fun W=>eG (P:=prog) (kk:= .i64) underlying243 underlying1 rfl pq W _ 2 _ rfl oA;go_wp2_with (go_at_call 175;refine (Cl (H+1) R n (ins B n t 2) _ A.blk A0.out).mono ?_;rintro e w' ⟨rfl,D,E⟩);go_roundg (gk-1)
      case rel=>exact ⟨3,oA,rfl,A.step J D E⟩
      case measure=>omega
     .have hix:∀W:World,(Instr.index 243 (.agg #[Value.func (Fn.func 171) #[] #[.pointer (some ⟨H+1,0,none⟩),.pointer (some ⟨H,0,none⟩)],Value.func (Fn.func 173) #[] #[.pointer (some ⟨H+1,0,none⟩)],Value.func (Fn.func 175) #[] #[.pointer (some ⟨R,0,none⟩),.pointer (some ⟨H+1,0,none⟩)],Value.func (Fn.func 177) #[] #[.pointer (some ⟨H,0,none⟩),.pointer (some ⟨H+1,0,none⟩),.pointer (some ⟨R,0,none⟩)]]) (.int .i64 3)).run prog W= .ok (Value.func (Fn.func 177) #[] #[.pointer (some ⟨H,0,none⟩),.pointer (some ⟨H+1,0,none⟩),.pointer (some ⟨R,0,none⟩)]) W:=fun W=>eG (P:=prog) (kk:= .i64) underlying243 underlying1 rfl pq W _ 3 _ rfl oA;go_wp2_with (go_at_call 177;refine (Ck (H+1) C H R n (ins B n t 3) B _ hn A.blk A.key y.out A0.out).mono ?_;rintro e w' ⟨rfl,D,E⟩);go_roundg (gk-1)
      case rel=>exact ⟨4,oA,rfl,A.step J D E⟩
      case measure=>omega
    .obtain rfl:k=4:=oA;have F:wr.cell? ⟨R,0,none⟩=some (.int .i64 (n:Int)):=A.cell.cell rfl;obtain ⟨O,hc,hq,p,⟨z,L,I⟩,S,T⟩:=A;have hs:R<wr.heap.size:=hc.lt;have A1:=Hd O;clear O;go_wp2_with fail;go_roundg (g0-1)
     case rel=>
      have O:=A1.out;have N:=HF.out;refine ⟨n+1,wr.heap.size,oA,oA,rfl,oA,?_,(hq.alloc _),?_,⟨z,L,I.alloc _⟩,S.alloc _,T.alloc oA _⟩
      .rw [show (((n+1:Nat)):Int)=(n:Int)+1 by omega];exact Blk.new _ _ _
      .have e:ins B n t 4=bt B s (n+1-1):=by
        obtain ⟨m,rfl⟩:∃m,n=m+1:=⟨n-1,oA⟩;have:=HT.out;simp only [Xm] at this⊢;rw [bt,<-this];rfl
       rw [<-e];exact p.alloc _
     case measure=>have N:=HF.out;omega
  .obtain rfl:n=11:=oA;have tn:decide (((11:Nat):Int)<=10)=false:=skA;obtain ⟨O,hc,hq,p,⟨z,L,I⟩,S,T⟩:=A;have F:wr.cell? ⟨R,0,none⟩=some (.int .i64 11):=hc.cell rfl;clear O S;go_wp2_with (first|refine ap rfl 169 ee _ rfl rfl p (aH _ _) ?_|refine ae rfl 169 ee (.tmp 4) _ (cells:=fA 16 (bt B s (11-1))) rfl rfl rfl I (aH _ _) L (fK _ _) ?_);refine cT rfl ee rfl (I.setRow _) (aH _ _) rfl ⟨rfl,?_⟩;rw [HH.out] at T⊢;exact ak T oA _
end
section
open Go.RowKit
attribute [local go_sem] dD dE dV cG
theorem nF (B A:AS) (h:B.size=A.size):cU B 0 A=A:=by
 have e:List.drop A.size B.toList=[]:=Xr (by simp [h]);simp [cU,e]
end
end Go.Proofs.YtioigihakjlopaaGreat

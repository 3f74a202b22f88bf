import Derived.Test.YtioigihakjlopaaGreatVR11
import Derived.Deep.CutBlock
namespace Go.Proofs.YtioigihakjlopaaGreat
open Go.Proofs.Tryz
set_option linter.unusedVariables false
set_option linter.unusedSimpArgs false
set_option maxHeartbeats 16000000
set_option maxRecDepth 100000
section
open Go.RowKit
section
variable {w w':As} {B:Nat} {p:ao} {h:aY}
theorem be.turn {F:Nat->Prop} (a:be w B p h) (A:aJ F w w') (E:∀x,F x->x<B):be w' B p h:=
 ⟨a.kind,a.game,a.table,a.fmt,a.n0,a.n1,a.d0.turn A E,a.d1.turn A E,a.dr.turn A E,a.act.turned A E⟩
theorem be.cell1 {g i:Nat} {cs:AS} {t:TypeId} (a:be w B p h) (A:Blk w g cs t) (E:t≠3) (F:t≠157) (v:Value):be (w.setCell ⟨g,i,none⟩ v) B p h:=
 ⟨a.kind,a.game,a.table,a.fmt,a.n0,a.n1,a.d0.cell1 A E v,a.d1.cell1 A E v,a.dr.cell1 A E v,⟨a.act.op,a.act.side,a.act.place,a.act.target,a.act.ids.cell1 A E v,a.act.pairs.cell1 A F v⟩⟩
theorem be.row1 {g:Nat} {cs:AS} {t:TypeId} (a:be w B p h) (E:Blk w g cs t) (F:t≠3) (G:t≠157) (A:AS):be (w.setRow g A) B p h:=
 ⟨a.kind,a.game,a.table,a.fmt,a.n0,a.n1,a.d0.row1 E F A,a.d1.row1 E F A,a.dr.row1 E F A,⟨a.act.op,a.act.side,a.act.place,a.act.target,a.act.ids.row1 E F A,a.act.pairs.row1 E G A⟩⟩
end
theorem bu.row1 {w:As} {B g:Nat} {p:bF} {h:dy} {cs:AS} {t:TypeId} (a:bu w B p h) (E:Blk w g cs t) (F:t≠3) (G:t≠157) (A:AS):bu (w.setRow g A) B p h:=
 ⟨a.op,a.side,a.place,a.target,a.ids.row1 E F A,a.pairs.row1 E G A⟩
theorem kx {P:Program} {A:Array Oper} {rest:List Oper} {o:Oper} {a:Act} {w:As} {Q:Exit->Act->World->Prop} (E:Region.wanted o (yielded A a.tmps)=true) (ty:TypeId) {n:Nat} (F:lY P ty n) (x:Operand) (G:o.op= .load ty x)
  {g:Nat} (hx:a.eval x= .pointer (some ⟨g,0,none⟩)) {t:TypeId} {cs:AS} (H:Blk w g cs t) (I:cs.size=n)
  (h:wpList P A Q rest (a.put o.dst (.agg cs)) w):wpList P A Q (o::rest) a w:=by
 obtain ⟨⟨d,J,M⟩,L⟩:=F;unfold wpList;rw [Vz E];exact .inl (wp_load_row ty x G g hx t cs (0,0) d H J (by cases d<;>simp_all [Ir]) (by rw [L,I]) h)
structure RdW (w:As) (X C D:Nat) (p:ao) (h:aY) (s:CS) (W:As):Prop where
 cur:∃a n c,rj W w.heap.size C s a n c
 bX:Blk W X cM 40
 bD:Blk W D (af p h).toArray 40
 own:be W (C+1) p h
 below:Below w.heap.size w W
 len:s.b.length<=1048576
section
variable {w W W1:As} {X C D:Nat} {p p':ao} {h h':aY} {s s1:CS} {a:Lt} {n c:Nat}
theorem RdW.turn (q:RdW w X C D p h s W) (J:w.heap.size<=C) (F:rj W1 w.heap.size C s1 a n c) (A:aJ (fun x=>x=C) W W1) (G:s1.b.length<=s.b.length):RdW w X C D p h s1 W1:=by
 obtain ⟨L,n0,M,E⟩:=q.cur;have H:X≠C:=q.bX.ne E.cur dcA;have I:D≠C:=q.bD.ne E.cur dcA;exact ⟨⟨_,_,_,F⟩,(A.block X q.bX.lt H).trans q.bX,(A.block D q.bD.lt I).trans q.bD,q.own.turn A (fun x hx=>by omega),q.below.trans (A.below (fun x hx=>by omega) q.below.size),Vd G q.len⟩
theorem RdW.put (q:RdW w X C D p h s W) (E:w.heap.size<=D) (F:X≠D) (i:Nat) (v:Value) (e:(af p h).toArray.setIfInBounds i v=(af p' h').toArray) (G:be (W.setCell ⟨D,i,none⟩ v) (C+1) p' h'):RdW w X C D p' h' s (W.setCell ⟨D,i,none⟩ v):=by
 obtain ⟨I,n0,J,A⟩:=q.cur;have H:C≠D:=A.cur.ne q.bD dcA;refine ⟨⟨_,_,_,A.keep (Vq W ⟨D,i,none⟩ C v H) (YH (p:=⟨D,i,none⟩) (VW _ _) E v)⟩,q.bX.other _ _ F,?_,G,YH (p:=⟨D,i,none⟩) q.below E v,q.len⟩;rw [<-e];exact q.bD.set i v
end
theorem RdW.old {w W W1:As} {X C D:Nat} {p:ao} {h:aY} {s:CS} (q:RdW w X C D p h s W) (A:Below W.heap.size W W1):RdW w X C D p h s W1:=by
 obtain ⟨F,n0,G,E⟩:=q.cur;exact ⟨⟨F,n0,G,E.keep (A.block C E.cur.lt) (A.mono q.below.size)⟩,q.bX.old A,q.bD.old A,q.own.old A,aa q.below A,q.len⟩
theorem RdW.putRow {w W:As} {X C D:Nat} {p p':ao} {h h':aY} {s:CS} (q:RdW w X C D p h s W) (E:w.heap.size<=D) (F:X≠D) (G:be (W.setRow D (af p' h').toArray) (C+1) p' h'):RdW w X C D p' h' s (W.setRow D (af p' h').toArray):=by
 obtain ⟨I,n0,J,A⟩:=q.cur;have H:C≠D:=A.cur.ne q.bD dcA;exact ⟨⟨_,_,_,A.keep (Xi W D C _ H) (ak (VW _ _) E _)⟩,q.bX.setRow_other _ _ F,q.bD.setRow _,G,ak q.below E _,q.len⟩
theorem RdW.done {w W:As} {X C D:Nat} {p:ao} {h:aY} {s:CS} (q:RdW w X C D p h s W) (E:w.heap.size<=C) (b:Bool):RdW w X C D p h ⟨[],b⟩ ((W.setCell ⟨C,1,none⟩ (.bool b)).setCell ⟨C,0,none⟩ (.slice none 0 0)):=by
 obtain ⟨I,n0,J,A⟩:=q.cur;have F:X≠C:=q.bX.ne A.cur dcA;have G:D≠C:=q.bD.ne A.cur dcA;have H:=A.cur.set 1 (.bool b);have c2:=H.set 0 (.slice none 0 0);refine ⟨⟨none,0,0,c2,av.nil _ _,rfl,VU _,oA,fun h=>by omega⟩,(q.bX.other _ _ F).other _ _ F,(q.bD.other _ _ G).other _ _ G,(q.own.cell1 A.cur dcA dcA _).cell1 H dcA dcA _,YH (p:=⟨C,0,none⟩) (YH (p:=⟨C,1,none⟩) q.below E _) E _,skA⟩
def jV (w:As) (bs:Le) (e:Ending) (w':As):Prop:=
 ∃h,e= .returned (.tuple #[dG (gB bs).1 h,.int .i64 (gB bs).2])/\be w' w.heap.size (gB bs).1 h/\Below w.heap.size w w'
def dN:aY:=⟨kH,kH,kH,lR⟩
theorem ep (w:As) (B:Nat):be w B kE dN:=
 ⟨rfl,rfl,rfl,Vt _,Vt _,Vt _,ax.nil _ _,ax.nil _ _,ax.nil _ _,⟨rfl,rfl,rfl,rfl,ax.nil _ _,aQ.nil _ _⟩⟩
theorem aj.inB {w:As} {a:Lt} {l:Le} {n:Nat} (h:aj w a l) (F:l.length=n):InB w.heap.size a n:=fun G H A=>by
 obtain ⟨b,o,e,E⟩:=h 0 (by rw [lmA];omega);rw [A] at e;cases e;exact Vx w _ E
theorem MV {w:As} {C g o:Nat} {x:Lt} {n c:Nat} {bd:Bool} {k:IntKind} {v:Int} (A:Blk w C (MW x n c bd) 142) (h:w.cell? ⟨g,o,none⟩=some (.int k v)):g≠C:=by
 rintro rfl;rw [A.rule] at h;have E:o<2:=(VT.1 h).1;have:o=0\/o=1:=oA;rcases this with e|e<;>rw [e] at h<;>simp [MW] at h
def jZ (k g:Int):ao:=⟨k,g,0,emN,emN,emN,[],[],[],dR⟩
def RdAt (w:As) (X C:Nat) (p:ao) (s:CS) (v:Value) (W:As):Prop:=∃(D:Nat) (h:aY),v= .pointer (some ⟨D,0,none⟩)/\w.heap.size<=D/\X≠D/\RdW w X C D p h s W
theorem th (y:UInt8):wf8 (lJ y):=by
 have A:∀n:Fin 256,wf8 (IntKind.i8.wrap ((n.val:Nat):Int)):=(by unfold wf8;decide+kernel);exact A ⟨y.toNat,y.toNat_lt⟩
theorem nG (p:ao) (h:aY):cU cM 0 (af p h).toArray=(af p h).toArray:=rfl
theorem zk {w W:As} {X C D:Nat} {s:CS} {a:Lt} {n c:Nat} {k g:Int} (F:rj W w.heap.size C s a n c) (H:Blk W X cM 40) (G:Blk W D cM 40) (I:Below w.heap.size w W) (A:w.heap.size<=D) (E:X≠D) (J:wf8 k) (L:ff g) (M:s.b.length<=1048576):
  RdAt w X C (jZ k g) s (.pointer (some ⟨D,0,none⟩)) (W.setRow D (cU cM 0 (af (jZ k g) dN).toArray)):=by
 rw [nG];have e:C≠D:=F.cur.ne G dcA;exact ⟨D,dN,rfl,A,E,⟨⟨a,n,c,F.keep (Xi W D C _ e) (ak (VW _ _) A _)⟩,H.setRow_other _ _ E,G.setRow _,⟨J,L,rfl,Vt _,Vt _,Vt _,ax.nil _ _,ax.nil _ _,ax.nil _ _,⟨rfl,rfl,rfl,rfl,ax.nil _ _,aQ.nil _ _⟩⟩,ak I A _,M⟩⟩
theorem rj.old {w w':As} {B C:Nat} {s:CS} {a:Lt} {n c:Nat} (h:rj w B C s a n c) (A:Below w.heap.size w w') (E:B<=w.heap.size):rj w' B C s a n c:=h.keep (A.block C h.cur.lt) (A.mono E)
theorem pV (s:CS):(gM s).2.b.length<=s.b.length:=Vd (uY _ _) (gd s)
theorem vJ:∀(k:Nat) (s:CS),(fQ k s).2.b.length<=s.b.length
 |0,s=>VU _
 |k+1,s=>Vd (vJ k _) (gd s)
theorem qH (s:CS):(gP s).2.b.length<=s.b.length:=by
 unfold gP;split
 .exact gd s
 .exact Vd (vJ _ _) (gd s)
theorem xp (s:CS) (h:s.b.length<=1048576):rG (dK (gM s).1):=by
 unfold rG;rw [nD];have A:=gd s;unfold gM dW;split
 .simp
 .dsimp only;rw [ltA];omega
def qX (p:ao) (s:CS):ao×CS:=({p with dr:=(gP s).1},(gP s).2)
def qW (p:ao) (s:CS):ao×CS:=qX {p with d1:=(gP s).1} (gP s).2
def oC (p:ao) (s:CS):ao×CS:=qW {p with d0:=(gP s).1} (gP s).2
def qE (p:ao) (s:CS):ao×CS:=oC {p with n1:=dK (gM s).1} (gM s).2
def qD (p:ao) (s:CS):ao×CS:=qE {p with n0:=dK (gM s).1} (gM s).2
def Ii:Nat->ao->CS->ao×CS
 |0=>qX
 |1=>qW
 |_=>oC
def My:Nat->ao->CS->ao×CS
 |0=>oC
 |1=>qE
 |_=>qD
def MN (p:ao) (s:CS):ao×CS:=qD {p with fmt:=dK (gM s).1} (gM s).2
def yQ (p:ao) (s:CS):ao×CS:=MN {p with table:=(bp s).1} (bp s).2
theorem wK (s:CS):iB s=yQ (jZ 1 (bp s).1) (bp s).2:=by
 simp only [iB,mk2,uk,zR,sqC,yQ,MN,qD,qE,oC,qW,qX,jZ]
def RdN (w:As) (X C D:Nat) (T:ao×CS) (f:Nat) (i:Value) (W:As):Prop:=∃(k:Nat) (p:ao) (h:aY) (s:CS),k+f=2/\i= .int .i64 (k:Int)/\RdW w X C D p h s W/\Hid (T=My f p s)
def RdK (w:As) (X C D:Nat) (T:ao×CS) (f:Nat) (i:Value) (W:As):Prop:=∃(k:Nat) (p:ao) (h:aY) (s:CS),k+f=2/\i= .int .i64 (k:Int)/\RdW w X C D p h s W/\Hid (T=Ii f p s)
def RdE (w:As) (X C D:Nat) (T:ao×CS) (W:As):Prop:=∃h:aY,RdW w X C D T.1 h T.2 W
theorem BP (w:As) (a:Lt) (n cap:Nat) (bs:Le) (hb:aj w a bs) (hn:bs.length=n) (hm:n<=1048576) (hc:n<=cap):
  Calls prog 30 #[.slice a n cap] w (jV w bs):=by
 go_enter func30,ntmps30;go_upto_region 2 with fail;obtain ⟨X,hX⟩:=At w.heap.size;rw [<-hX];refine ag (fun W=>Blk W X cM 40/\rj W w.heap.size (X+1) ⟨bs,false⟩ a n cap/\Below w.heap.size w W) ⟨by subst hX;exact Blk.new2 w _ _ _,?_,by subst hX;exact cL⟩ ?_
 .exact ⟨by subst hX;exact Blk.new2' w _ _ _,(hb.alloc _).alloc _,hn,hc,oA,hb.inB hn⟩
 rintro W1 ⟨bX,B7,A5⟩;have B1:w.heap.size<=X:=VM hX.symm;clear hX;obtain ⟨C,hC⟩:=At (X+1);rw [<-hC] at B7⊢;have CK:X≠C:=oA;have Y:w.heap.size<=C:=oA;clear hC;go_wp2_with fail;refine (pO w.heap.size C _ a n cap 1 _ B7).mono ?_;rintro e G ⟨a1,k1,a2,n2,c2,rfl,A6,B3,A2,CW⟩;have A8:Blk G X cM 40:=(CW.block X bX.lt CK).trans bX;have A0:Below w.heap.size w G:=A5.trans (CW.below (fun x hx=>by omega) A5.size);clear B7 CW bX A5;have J:G.cell? ⟨C,1,none⟩=some (.bool (dW 1 ⟨bs,false⟩).2.bad):=A2.cur.cell rfl
 match bs,hn with
 | [],hn=>
  have e1:(dW 1 ⟨[],false⟩).2.bad=true:=rfl;rw [e1] at J;go_wp2_with (refine ae rfl 40 aZ (.tmp 2) _ rfl rfl rfl A8 rfl rfl rfA ?_);exact aX rfl aZ rfl (A8.setRow _) rfl rfl rfl ⟨dN,rfl,ep _ _,ak A0 B1 _⟩
 |y::r,hn=>
  have e1:dW 1 ⟨y::r,false⟩=([y],⟨r,false⟩):=by
   unfold dW;rw [VV (by simp only [VC];omega)];rfl
  rw [e1] at J A2 B3 A6;dsimp only at J A2 B3 A6;obtain ⟨kd,C0⟩:=At (lJ y);have D8:IntKind.i8.wrap (U8 y)=kd:=C0.symm;have A9:=Hd C0;clear C0 e1;obtain ⟨bk,ok,rfl,D3⟩:=B3.at skA;have B0:=D3 0 skA;obtain rfl:k1=1:=(by simpa using A6.symm);simp only [Yf,Yn] at B0;have D9:Below G.heap.size G G:=VW _ _;go_upto_region 5 with fail;have C1:bk≠C:=MV A2.cur B0;have A7:=Vx G _ B0;have j:=A2.cur.lt;have C2:=A8.lt;have C3:(bp ⟨r,false⟩).2.b.length<=1048576:=by
   have h1:=gd ⟨r,false⟩;simp only [VC] at hn;dsimp only at h1;omega
  go_cut [6] (fun v6 wx=>RdAt w X C (jZ kd (bp ⟨r,false⟩).1) (bp ⟨r,false⟩).2 v6 wx)
  case first=>
   have k0:∀W,au (fun x=>x=bk) G.drew W->W.cell? ⟨bk,ok,none⟩=some (.int .u8 (U8 y)):=fun W hW=>(VE (a:=⟨bk,ok,none⟩) (hW.2 bk rfl)).trans B0;refine ah false (au (fun x=>x=bk)) (au.refl _) (fun _ _ _ h1 h2=>au.trans h1 h2) (.step 0 (.step 1 (.step 2 (.step 3 (.step 4 (.fork [(5,(.step 6 (.step 7 (.step 8 .done)))),(7,(.step 5 (.step 6 (.step 8 .done))))])))))) krA krA cdA ?_
   repeat refine txA ?_
   refine kT ?_;refine js rfl rfA (fun K O=> ?_) ?_
   .go_wp2_with fail;refine (gi w.heap.size C _ a2 n2 c2 _ (A2.keep (w':=G.drew) rfl (VW _ _).drew)).mono ?_;rintro e S ⟨a3,n3,c3,rfl,C4,P⟩;have C9:aJ (fun x=>x=C) G S:=⟨P.os,P.tape,P.output,P.size,P.block⟩;go_wp2_with fail;refine O _ _ ⟨P.size,fun x hx=>by subst hx;exact P.block x A7 C1⟩ ?_;clear O K
    repeat refine txA ?_
    refine am rfl rfl rfA (fun K O=> ?_);go_wp2_with fail;have C5:w.heap.size<=S.heap.size:=Vd A0.size P.size;refine O _ _ (au.below ((VW _ S).alloc (VU _) _) fun x hx=>by subst hx;exact VP A7 P.size) ?_;clear O K;refine am rfl rfl rfA (fun K O=> ?_);refine bq 40 aZ _ _ rfl rfl rfl (Blk.new _ _ _) rfl (VU _) rfA ?_;have A1:Blk S X cM 40:=(C9.block X C2 CK).trans A8;have EE:X≠S.heap.size:=(by have:=A1.lt;omega);have B9:=zk (k:=kd) (g:=(bp ⟨r,false⟩).1) ((C4.old ((VW _ S).alloc (VU _) (.cells cM 40)) C5)) (A1.alloc _) (Blk.new S cM 40) (((A0.trans (C9.below (fun x hx=>by omega) A0.size)).alloc C5 (.cells cM 40))) C5 EE (by rw [A9.out];exact th y) (jC _) C3;refine O _ _ ?_ ?_
    .exact au.below (ak (VW S.heap.size _) (VU _) _) fun x hx=>by subst hx;exact VP A7 P.size
    clear O K;refine aq ?_;go_wp2_with fail;go_meet;exact B9
   .refine js rfl rfA (fun K O=> ?_) ?_
    .go_wp2_with fail;have C6:Below G.heap.size G (G.alloc (.cells cM 40)).drew:=((VW _ G).alloc (VU _) (.cells cM 40)).drew;refine O _ _ (au.below (lp C6) fun x hx=>by subst hx;exact A7) ?_;clear O K;refine am rfl rfl rfA (fun K O=> ?_);go_wp2_with fail;have EQ:=A2.old C6 A0.size;have C7:G.heap.size<(G.alloc (.cells cM 40)).drew.heap.size:=skA;refine (gi w.heap.size C _ a2 n2 c2 _ EQ).mono ?_;rintro e S ⟨a3,n3,c3,rfl,C4,P⟩;have E0:C≠G.heap.size:=oA;have B4:Blk S G.heap.size cM 40:=(P.block G.heap.size C7 (fun e=>E0 e.symm)).trans (Blk.new G cM 40).drew;have A1:Blk S X cM 40:=(P.block X (Nat.lt_trans C2 C7) CK).trans (A8.alloc _).drew;have BY:Below w.heap.size w S:=(A0.trans (C6.mono A0.size)).trans (P.below (fun x hx=>by omega) (by have:=A0.size;omega));go_wp2_with fail;refine O _ _ ⟨P.size,fun x hx=>by subst hx;exact P.block x (Nat.lt_trans A7 C7) C1⟩ ?_;clear O K
     repeat refine txA ?_
     refine am rfl rfl rfA (fun K O=> ?_);refine bq 40 aZ _ _ rfl rfl rfl B4 rfl (VU _) rfA ?_;have B9:=zk (k:=kd) (g:=(bp ⟨r,false⟩).1) C4 A1 B4 BY A0.size oA (by rw [A9.out];exact th y) (jC _) C3;refine O _ _ ?_ ?_
     .exact ⟨by simp [World.setRow],fun x hx=>by subst hx;exact Xi S _ x _ oA⟩
     clear O K;refine aq ?_;go_wp2_with fail;go_meet;exact B9
    .exact mK
  case rest=>
   obtain ⟨D,h0,rfl,hD,A3,q⟩:=hcut;have HR:=Hd (show gB (y::r)=wm (tT kd ⟨r,false⟩) by rw [A9.out];rfl);obtain ⟨T,F⟩:=At (tT kd ⟨r,false⟩);rw [<-F] at HR;have HT:=Hd F;clear F hn hb A2 J A8 A0 D3 B3 B0 A6 D9 C1 A7 j C2 D8 C3;have ck:wc.cell? ⟨D,0,none⟩=some (.int .i8 kd):=q.bD.cell rfl;go_upto_block 0 with fail;go_cut [9] (fun _ wx=>RdE w X C D T wx)
   case first=>
    by_cases A6:kd=1
    .subst A6;have F:=HT.out;rw [show tT 1 ⟨r,false⟩=iB ⟨r,false⟩ from rfl,wK] at F;unfold yQ at F;generalize (bp ⟨r,false⟩).1=g at*;generalize (bp ⟨r,false⟩).2=s1 at*;have B5:=Hd F;clear F HT A9;obtain ⟨L,n0,M,E⟩:=q.cur;go_wp2_with fail;refine (gi w.heap.size C s1 L n0 M _ E).mono ?_;rintro e W1 ⟨a1,n1,c1,rfl,H,I⟩;have A:=q.turn Y H I (gd s1);have f1:=A.bD.free;have V:W1.cell? ⟨D,2,none⟩=some (.int .i64 0):=A.bD.cell rfl;have D4:=jC s1;generalize (bp s1).1=t at*;generalize (bp s1).2=s2 at*;clear q E H I ck;go_upto_region 9 with fail;refine ag (fun W=>RdW w X C D {jZ 1 g with table:=t} h0 s2 W) (A.put hD A3 2 _ rfl ?_) ?_
     .have:=A.own.cell1 (i:=2) A.bD dcA dcA (.int .i64 t);exact ⟨this.kind,this.game,D4,this.fmt,this.n0,this.n1,this.d0,this.d1,this.dr,this.act⟩
     clear A f1 V;intro G q;obtain ⟨L,n0,M,E⟩:=q.cur;go_wp2_with fail;refine (pN w.heap.size C s2 L n0 M _ E).mono ?_;rintro e W1 ⟨a1,n1,c1,rfl,H,I⟩;have A:=q.turn Y H I (pV s2);have f1:=A.bD.free;have V:W1.cell? ⟨D,3,none⟩=some (.string emN):=A.bD.cell rfl;have hz:=xp s2 q.len;have F:=B5.out;unfold MN at F;generalize dK (gM s2).1=f at*;generalize (gM s2).2=s3 at*;have l:=Hd F;clear F B5 q E H I;go_upto_region 10 with fail;refine ag (fun W=>RdN w X C D T 2 (.int .i64 0) W) ⟨0,_,h0,s3,rfl,rfl,A.put hD A3 3 _ rfl ?_,Hd l.out⟩ ?_
     .have:=A.own.cell1 (i:=3) A.bD dcA dcA (.string f);exact ⟨this.kind,this.game,this.table,hz,this.n0,this.n1,this.d0,this.d1,this.dr,this.act⟩
     clear A f1 V l hz D4;intro S B2;go_wp2_with fail;go_loopg [7,37,38,39,40,41,42,43,44,45] 2 (fun f _ i _ _ _ _ _ _ _ _ wr=>RdN w X C D T f i wr)
     case atStart=>exact B2
     case round=>
      clear B2;obtain ⟨k,p,h,s,hf,rfl,q,Z⟩:=hrel;have d:=Hd hf;clear hf;by_cases hk:k<2
      .have h3:k=0\/k=1:=oA;rcases h3 with rfl|rfl
       .obtain ⟨L,n0,M,E⟩:=q.cur;have U:Hid (T=qD p s):=by
         have e:gk=2:=(by have:=d.out;omega);have h:=Z.out;rw [e] at h;exact Hd h
        clear Z;go_wp2_with fail;refine (pN w.heap.size C s L n0 M _ E).mono ?_;rintro e W1 ⟨a1,n1,c1,rfl,H,I⟩;have A:=q.turn Y H I (pV s);have f1:=A.bD.free;have V:W1.cell? ⟨D,4,none⟩=some (.string p.n0):=A.bD.cell rfl;have hz:=xp s q.len;have F:=U.out;unfold qD at F;generalize dK (gM s).1=x at*;generalize (gM s).2=s' at*;have l:=Hd F;clear F U q E H I;go_wp2_with fail;go_roundg 1
        case measure=>have:=d.out;omega
        case rel=>
         refine ⟨0+1,{p with n0:=x},h,s',oA,gnA,A.put hD A3 4 _ rfl ?_,Hd l.out⟩;have:=A.own.cell1 (i:=4) A.bD dcA dcA (.string x);exact ⟨this.kind,this.game,this.table,this.fmt,by first|exact hz|exact this.n0,by first|exact hz|exact this.n1,this.d0,this.d1,this.dr,this.act⟩
       .obtain ⟨L,n0,M,E⟩:=q.cur;have U:Hid (T=qE p s):=by
         have e:gk=1:=(by have:=d.out;omega);have h:=Z.out;rw [e] at h;exact Hd h
        clear Z;go_wp2_with fail;refine (pN w.heap.size C s L n0 M _ E).mono ?_;rintro e W1 ⟨a1,n1,c1,rfl,H,I⟩;have A:=q.turn Y H I (pV s);have f1:=A.bD.free;have V:W1.cell? ⟨D,5,none⟩=some (.string p.n1):=A.bD.cell rfl;have hz:=xp s q.len;have F:=U.out;unfold qE at F;generalize dK (gM s).1=x at*;generalize (gM s).2=s' at*;have l:=Hd F;clear F U q E H I;go_wp2_with fail;go_roundg 0
        case measure=>have:=d.out;omega
        case rel=>
         refine ⟨1+1,{p with n1:=x},h,s',oA,gnA,A.put hD A3 5 _ rfl ?_,Hd l.out⟩;have:=A.own.cell1 (i:=5) A.bD dcA dcA (.string x);exact ⟨this.kind,this.game,this.table,this.fmt,by first|exact hz|exact this.n0,by first|exact hz|exact this.n1,this.d0,this.d1,this.dr,this.act⟩
      .obtain rfl:k=2:=(by have:=d.out;omega);have D5:Hid (T=Ii 2 p s):=by
        have e:gk=0:=(by have:=d.out;omega);have h:=Z.out;rw [e] at h;exact Hd h
       clear Z;have B2:RdK w X C D T 2 (.int .i64 0) wr:=⟨0,p,h,s,rfl,rfl,q,D5⟩;clear q D5;go_wp2_with fail;go_loopg [8,46,47,48,49,50,51,52,53,54] 2 (fun f _ i _ _ _ _ _ _ _ _ wr=>RdK w X C D T f i wr)
       case atStart=>exact B2
       case round=>
        clear B2;obtain ⟨k,p,h,s,hf,rfl,q,Z⟩:=hrel;have d:=Hd hf;clear hf;by_cases hk:k<2
        .have h3:k=0\/k=1:=oA;rcases h3 with rfl|rfl
         .obtain ⟨L,n0,M,E⟩:=q.cur;have U:Hid (T=oC p s):=by
           have e:gk=2:=(by have:=d.out;omega);have h:=Z.out;rw [e] at h;exact Hd h
          clear Z;have A4:n0<=1000000000:=(by have:=E.hl;have:=q.len;omega);have J:=pR w.heap.size C s L n0 M _ E q.below.size Y A4;have j:=E.cur.lt;clear A4;go_wp2_with fail;refine J.mono ?_;clear J;rintro e W1 ⟨⟨o,xn,xc⟩,a1,n1,c1,rfl,N,H,I⟩;have A:=q.turn Y H I (qH s);have f1:=A.bD.free;have V:W1.cell? ⟨D,6,none⟩=some (.slice h.d0.a h.d0.n h.d0.c):=A.bD.cell rfl;have F:=U.out;unfold oC at F;replace N:=(N.lower (B':=C+1) j).cell1 (i:=6) A.bD dcA (.slice o xn xc);generalize (gP s).1=x at*;generalize (gP s).2=s' at*;have l:=Hd F;clear F U q E H I j;go_wp2_with fail;go_roundg 1
          case measure=>have:=d.out;omega
          case rel=>
           refine ⟨0+1,{p with d0:=x},{h with d0:=⟨o,xn,xc⟩},s',oA,gnA,A.put hD A3 6 _ rfl ?_,Hd l.out⟩;have:=A.own.cell1 (i:=6) A.bD dcA dcA (.slice o xn xc);exact ⟨this.kind,this.game,this.table,this.fmt,this.n0,this.n1,by first|exact N|exact this.d0,by first|exact N|exact this.d1,this.dr,this.act⟩
         .obtain ⟨L,n0,M,E⟩:=q.cur;have U:Hid (T=qW p s):=by
           have e:gk=1:=(by have:=d.out;omega);have h:=Z.out;rw [e] at h;exact Hd h
          clear Z;have A4:n0<=1000000000:=(by have:=E.hl;have:=q.len;omega);have J:=pR w.heap.size C s L n0 M _ E q.below.size Y A4;have j:=E.cur.lt;clear A4;go_wp2_with fail;refine J.mono ?_;clear J;rintro e W1 ⟨⟨o,xn,xc⟩,a1,n1,c1,rfl,N,H,I⟩;have A:=q.turn Y H I (qH s);have f1:=A.bD.free;have V:W1.cell? ⟨D,7,none⟩=some (.slice h.d1.a h.d1.n h.d1.c):=A.bD.cell rfl;have F:=U.out;unfold qW at F;replace N:=(N.lower (B':=C+1) j).cell1 (i:=7) A.bD dcA (.slice o xn xc);generalize (gP s).1=x at*;generalize (gP s).2=s' at*;have l:=Hd F;clear F U q E H I j;go_wp2_with fail;go_roundg 0
          case measure=>have:=d.out;omega
          case rel=>
           refine ⟨1+1,{p with d1:=x},{h with d1:=⟨o,xn,xc⟩},s',oA,gnA,A.put hD A3 7 _ rfl ?_,Hd l.out⟩;have:=A.own.cell1 (i:=7) A.bD dcA dcA (.slice o xn xc);exact ⟨this.kind,this.game,this.table,this.fmt,this.n0,this.n1,by first|exact N|exact this.d0,by first|exact N|exact this.d1,this.dr,this.act⟩
        .obtain rfl:k=2:=(by have:=d.out;omega);obtain ⟨L,n0,M,E⟩:=q.cur;have U:Hid (T=qX p s):=by
          have e:gk=0:=(by have:=d.out;omega);have h:=Z.out;rw [e] at h;exact Hd h
         clear Z;have A4:n0<=1000000000:=(by have:=E.hl;have:=q.len;omega);have J:=pR w.heap.size C s L n0 M _ E q.below.size Y A4;have j:=E.cur.lt;clear A4;go_wp2_with fail;refine J.mono ?_;clear J;rintro e W1 ⟨⟨o,xn,xc⟩,a1,n1,c1,rfl,N,H,I⟩;have A:=q.turn Y H I (qH s);have f1:=A.bD.free;have V:W1.cell? ⟨D,8,none⟩=some (.slice h.dr.a h.dr.n h.dr.c):=A.bD.cell rfl;have F:=U.out;unfold qX at F;replace N:=(N.lower (B':=C+1) j).cell1 (i:=8) A.bD dcA (.slice o xn xc);generalize (gP s).1=x at*;generalize (gP s).2=s' at*;have l:=Hd F;clear F U q E H I j;go_wp2_with fail;go_meet;rw [l.out];refine ⟨{h with dr:=⟨o,xn,xc⟩},A.put hD A3 8 _ rfl ?_⟩;have:=A.own.cell1 (i:=8) A.bD dcA dcA (.slice o xn xc);exact ⟨this.kind,this.game,this.table,this.fmt,this.n0,this.n1,this.d0,this.d1,N,this.act⟩
    .by_cases hk2:kd=2
     .subst hk2;have F:=HT.out;rw [show tT 2 ⟨r,false⟩=It ⟨r,false⟩ from rfl] at F;unfold It at F;generalize (bp ⟨r,false⟩).1=g at*;generalize (bp ⟨r,false⟩).2=s1 at*;obtain ⟨L,n0,M,E⟩:=q.cur;have E1:wc.cell? ⟨C,0,none⟩=some (.slice L n0 M):=E.cur.cell rfl;have J:=xG wc L n0 M s1.b E.read E.hl (by rw [<-E.hl];exact q.len);generalize (ec s1.b).1=pa at*;generalize (ec s1.b).2.1=ka at*;generalize (ec s1.b).2.2=er at*;have B5:=Hd F;have j:=E.cur.lt;clear F HT A9;go_wp2_with fail;refine J.mono ?_;clear J;rintro e W1 ⟨ha,rfl,N,D6⟩;have A:=q.old D6;replace N:=(N.lower (B':=C+1) j);clear q E D6 E1 ck;rw [dM];have B6:=A.bD;go_upto_region 24 with (refine fh rfl 38 Is (.tmp 69) _ rfl rfl rfl B6 rfl (VU 15) rfA ?_);rw [show cU (af (jZ 2 g) h0).toArray 9 (aw pa ha).toArray=(af {jZ 2 g with act:=pa} {h0 with act:=ha}).toArray from rfl];refine ag (fun W=>RdW w X C D {jZ 2 g with act:=pa} {h0 with act:=ha} s1 W) (A.putRow hD A3 ?_) ?_
      .have this:=A.own.row1 B6 dcA dcA (af {jZ 2 g with act:=pa} {h0 with act:=ha}).toArray;exact ⟨this.kind,this.game,this.table,this.fmt,this.n0,this.n1,this.d0,this.d1,this.dr,N.row1 B6 dcA dcA _⟩
      clear A N B6;intro G q;obtain ⟨L,n0,M,E⟩:=q.cur;have l0:G.cell? ⟨C,0,none⟩=some (.slice L n0 M):=E.cur.cell rfl;have V:G.cell? ⟨C,1,none⟩=some (.bool s1.bad):=E.cur.cell rfl;have f0:=E.cur.free;have m:∀b,(s1.bad||decide (er≠0))=b->RdE w X C D T ((G.setCell ⟨C,1,none⟩ (.bool b)).setCell ⟨C,0,none⟩ (.slice none 0 0)):=fun b hb=>by
       rw [B5.out];unfold RdE;dsimp only;rw [hb];exact ⟨_,q.done Y b⟩
      cases hs:s1.bad with
      |true=>
       rw [hs] at V;have m:=Hd (m true (by rw [hs];rfl));clear E q;go_wp2_with fail;go_meet;exact m.out
      |false=>
       rw [hs] at V;by_cases C8:er=0
       .subst C8;have m:=Hd (m false (by rw [hs];rfl));clear E q;go_wp2_with fail;go_meet;exact m.out
       .have m:=Hd (m true (by rw [hs];simpa using C8));have e2:(er !=0)=true:=(by simpa using C8);clear E q;go_wp2_with fail;go_meet
        first
         |exact m.out
         |(rw [e2];exact m.out)
     .have F:=HT.out;unfold tT at F;rw [VV A6,VV hk2] at F;have m:Hid (RdE w X C D T wc):=by
       rw [F];exact Hd ⟨h0,q⟩
      clear q F;go_wp2_with fail;go_meet;exact m.out
   case rest=>
    obtain ⟨p,s⟩:=T;obtain ⟨h,q⟩:=hcut;dsimp only at q;clear HT A9 ck;obtain ⟨L,n0,M,E⟩:=q.cur;have l0:wc.cell? ⟨C,0,none⟩=some (.slice L n0 M):=E.cur.cell rfl;have V:wc.cell? ⟨C,1,none⟩=some (.bool s.bad):=E.cur.cell rfl;have hl:=Hd E.hl;have bX:=q.bX;have bD:=q.bD;have A5:=q.below;have DO:=q.own;clear E q;have bad:(s.bad=true\/0<n0\/iE p=false)->gB (y::r)=(kE,2):=fun e=>by
     rw [HR.out];unfold wm;dsimp only;rw [Vz (by rw [hl.out];exact e)]
    have D0:¬(s.bad=true\/0<n0\/iE p=false)->gB (y::r)=(p,0):=fun e=>by
     rw [HR.out];unfold wm;dsimp only;rw [VV (by rw [hl.out];exact e)]
    have HB:=Hd bad;have HG:=Hd D0;clear bad D0;cases hs:s.bad with
    |true=>
     rw [hs] at V;have hr:=HB.out (.inl hs);go_wp2_with (refine ae rfl 40 aZ (.tmp 2) _ rfl rfl rfl bX rfl rfl rfA ?_);refine aX rfl aZ rfl (bX.setRow _) rfl rfl rfl ?_;unfold jV;rw [hr];exact ⟨dN,rfl,ep _ _,ak A5 B1 _⟩
    |false=>
     rw [hs] at V;by_cases D7:0<n0
     .have hr:=HB.out (.inr (.inl D7));have t1:decide ((0:Int)<(n0:Int))=true:=(by simpa using D7);go_wp2_with (refine ae rfl 40 aZ (.tmp 2) _ rfl rfl rfl bX rfl rfl rfA ?_);refine aX rfl aZ rfl (bX.setRow _) rfl rfl rfl ?_;unfold jV;rw [hr];exact ⟨dN,rfl,ep _ _,ak A5 B1 _⟩
     .obtain rfl:n0=0:=oA;have J:=yL p h wc ((DO.lower (Vd Y (YP C))).at);rw [aD] at J;go_wp2_with (refine kx rfA 40 aZ (.tmp 6) rfl rfl bD rfl ?_);refine J.mono ?_;clear J;rintro e S ⟨rfl,BY⟩;have A1:=bX.old BY;have B4:=bD.old BY;have D1:=aa A5 BY;cases D2:iE p with
      |false=>
       have hr:=HB.out (.inr (.inr D2));go_wp2_with (refine ae rfl 40 aZ (.tmp 2) _ rfl rfl rfl A1 rfl rfl rfA ?_);refine aX rfl aZ rfl (A1.setRow _) rfl rfl rfl ?_;unfold jV;rw [hr];exact ⟨dN,rfl,ep _ _,ak D1 B1 _⟩
      |true=>
       have hr:=HG.out (by rw [hs,D2];simp);go_wp2_with (first|refine ap rfl 40 aZ (.tmp 6) rfl rfl B4 rfl ?_|refine ae rfl 40 aZ (.tmp 2) _ rfl rfl rfl A1 rfl rfl rfA ?_);refine aX rfl aZ rfl (A1.setRow _) rfl rfl rfl ?_;unfold jV;rw [hr];exact ⟨h,rfl,((DO.old BY).row1 A1 dcA dcA _).lower (Vd Y (YP C)),ak D1 B1 _⟩
end
section
open Go.RowKit
def NI (w:As) (b:Le) (f:Nat) (loads at_:Value) (w':As):Prop:=
 ∃(a1:Lt) (n1 c1 k:Nat) (vs:AT) (done:List Le),loads= .slice a1 n1 c1/\aU w' w.heap.size 22 5 a1 n1 c1 vs done/\at_= .int .i64 (k:Int)/\k<=b.length/\
  n1+f=ju/\scan ju b=(done++(scan f (b.drop k)).1,(scan f (b.drop k)).2)/\Below w.heap.size w w'
def Lc (w:As) (H r:Le) (f:Nat) (same i:Value) (w':As):Prop:=
 ∃(k:Nat),k+f=8/\i= .int .i64 (k:Int)/\same= .bool (r.take k==H.take k)/\Below w.heap.size w w'
theorem Cf (r H:Le) (j:Nat) (A:j<r.length) (E:j<H.length):(r.take (j+1)==H.take (j+1))=((r.take j==H.take j)&&(r[j]==H[j])):=by
 rw [Vj A,Vj E];have F:(r.take j).length=(H.take j).length:=(by rw [ltA,ltA];omega);rw [WX];simp only [XY,Vh];constructor
 .intro h;have:=List.append_inj h F;simpa using this
 .rintro ⟨h,h'⟩;rw [h,h']
theorem vv (a:Lt) (len cap:Nat) (b:Le) (w:As) (hl:aj w a b) (BY:b.length=len) (hm:len<=140737488351232) (D4:len<=cap):
  Calls prog 116 #[.slice a len cap] w fun e w'=>∃a' n' c' vs,e= .returned (.tuple #[.slice a' n' c',.int .i64 ((scan ju b).2.length:Int)])/\aU w' w.heap.size 22 5 a' n' c' vs (scan ju b).1/\Below w.heap.size w w':=by
 have HL:=Hd BY;clear BY;go_enter func116,ntmps116;go_wp2_with fail;go_loopg [2,4] ju (NI w b)
 case atStart=>exact ⟨none,0,0,0,[],[],rfl,aU.nil _ _ _ _,rfl,Vt _,VN _,skA,VW _ _⟩
 case round=>
  obtain ⟨U,n1,V,k,vs,done,rfl,O,rfl,hk,hf,t,M⟩:=hrel;rw [HL.out] at hk;have Y:=Hd t;have A1:(b.drop k).length=len-k:=(by rw [ldA,HL.out]);have A:=Hd A1;clear t A1;rw [jD] at hf;cases gk with
  |zero=>
   have t1:decide ((n1:Int)<4096)=false:=soA;clear hf;go_wp2_with fail;go_ret2;have e:=iq Y.out (.inl rfl);refine ⟨U,n1,V,vs,?_,by rw [e];exact O,M⟩;rw [e,A.out];simp;omega
  |succ f=>
   have t1:decide ((n1:Int)<4096)=true:=soA;have HF:=Hd hf;clear hf;by_cases h8:len-k<=8
   .have t2:decide ((9:Int)<=(len:Int)-(k:Int))=false:=soA;go_wp2_with fail;go_ret2;have e:=iq Y.out (.inr (jd (by rw [A.out];exact h8)));refine ⟨U,n1,V,vs,?_,by rw [e];exact O,M⟩;rw [e,A.out];simp;omega
   .have t2:decide ((9:Int)<=(len:Int)-(k:Int))=true:=soA;obtain ⟨E,F,G,H,d0,d1,d2,d3,m,A7,D9⟩:=MU (r:=b.drop k) (by rw [A.out];omega);obtain ⟨g,o,rfl,L⟩:=aj.at hl (by rw [HL.out];omega);have B2:aj w (some ⟨g,o+k,none⟩) (b.drop k):=(by unfold aj;rw [YG];exact av.drop k hl);rw [A7] at Y A B2;have HR:=Hd A7;clear A7 L;have hx:=B2.below M;have L:∀i (hi:i<(E::F::G::H::d0::d1::d2::d3::m).length),wr.cell? ⟨g,o+k+i,none⟩=some (.int .u8 (U8 (E::F::G::H::d0::d1::d2::d3::m)[i])):=by
     obtain ⟨_,_,e,L⟩:=aj.at hx skA;cases e;exact L
    have g0:wr.cell? ⟨g,o+k,none⟩=some (.int .u8 (U8 E)):=L 0 skA;have g1:wr.cell? ⟨g,o+(k+1),none⟩=some (.int .u8 (U8 F)):=L 1 skA;have g2:wr.cell? ⟨g,o+(k+2),none⟩=some (.int .u8 (U8 G)):=L 2 skA;have g3:wr.cell? ⟨g,o+(k+3),none⟩=some (.int .u8 (U8 H)):=L 3 skA;have C9:g<wr.heap.size:=av.lt hx skA;have k0:k<len:=oA;have k1:k+1<len:=oA;have k2:k+2<len:=oA;have k3:k+3<len:=oA;have EE:m.length+8=len-k:=(by have:=A.out;simp only [VC] at this;omega);obtain ⟨N,B3⟩:∃N,tR E F G H=N:=⟨_,rfl⟩;have HO:=orBE E F G H;rw [B3] at HO;have S:fB (E::F::G::H::d0::d1::d2::d3::m)=N:=B3;by_cases A0:1<=N/\N<=65536/\N<=len-k-8
    .obtain ⟨b1,b2,b3⟩:=A0;have t3:decide ((N:Int)<1)=false:=soA;have t4:decide ((65536:Int)<(N:Int))=false:=soA;have t5:decide ((len:Int)-(k:Int)-8<(N:Int))=false:=soA;have A2:(m.take N).length=N:=(by rw [ltA];omega);have DO:aj wr (some ⟨g,o+(k+8),none⟩) (m.take N):=by
      have:=av.take N (av.drop (b:=g) (o:=o+k) 8 hx);rw [WM] at this;unfold aj;rw [WB];exact this
     have D5:k+8+N-(k+8)=N:=oA;have B4:gw (E::F::G::H::d0::d1::d2::d3::m)=m.take N:=(by unfold gw;rw [S];rfl);have B5:=tG (b:=E::F::G::H::d0::d1::d2::d3::m) (by rw [A.out];omega) (by rw [S];exact b1) (by rw [S];exact b2) (by rw [S,A.out];exact b3);rw [B4] at B5;have A8:=fun h=>vj Y.out h;rw [B4,S] at A8;obtain ⟨r,y⟩:∃r,E::F::G::H::d0::d1::d2::d3::m=r:=⟨_,rfl⟩;obtain ⟨l,J⟩:∃l,m.take N=l:=⟨_,rfl⟩;have D0:(E::F::G::H::d0::d1::d2::d3::m).drop (8+N)=b.drop (k+(8+N)):=(by rw [<-HR.out,XW]);go_wp2_with fail;go_quiet (fail);go_wp2_with (at_builtin;refine al rfl _ _ 22 rfl oG rfl (Own.nil _ w.heap.size _ _) rfl (DO.drewN nq) (by rw [lmA,A2];omega) (cV _) mxA oA M.size ?_);intro Z c2 w2 A9 D1;have A3:Below wr.heap.size wr w2:=(bS (VW _ wr) nq).grown D1 (VU _) (fun k hk=>by cases hk);have C2:=aa M A3;have C3:aj w2 Z (m.take N):=(by have:=A9.row;rw [J];simpa [aj,J] using this);go_wp2_with fail;refine (lP _ _ _ (m.take N) _ C3 A2 b1 b2).mono ?_;rintro e w3 ⟨a3,c3,rfl,B0,T⟩;obtain ⟨g3,D6,rfl,A4⟩:=B0.blk oA;have A4:=And.intro A4.1 A4.2.1;have D7:Below w2.heap.size w2 w3:=T;have B1:=aa C2 T;have A1:(bo l).length=8+N:=(by rw [bU,<-J,A2]);have eR:∀j (h:j<(bo l).length),∀W,Below w3.heap.size w3 W->W.cell? ⟨g3,j,none⟩=some (.int .u8 (U8 (bo l)[j])):=fun j h W P=>by
      rw [P.cell A4.2.lt];have:=B0.cell j (by rw [lmA];rw [J];exact h);rw [this];simp [bv,J]
     have eB:∀j (h:j<r.length),∀W,Below w3.heap.size w3 W->W.cell? ⟨g,o+(k+j),none⟩=some (.int .u8 (U8 r[j])):=fun j h W P=>by
      subst y;rw [(aa (aa A3 T) P).cell C9,<-WM];exact L j h
     go_wp2_with fail;go_loopg [9,10] 8 (Lc w3 (bo l) r)
     case atStart=>exact ⟨0,rfl,rfl,rfl,VW _ _⟩
     case round=>
      obtain ⟨j,hj,rfl,rfl,I⟩:=hrel;by_cases EQ:j<8
      .have u1:decide ((j:Int)<8)=true:=soA;have B6:j<r.length:=(by rw [<-y,A.out];omega);have B7:j<(bo l).length:=(by rw [A1];omega);have E0:∀W,Old wr.drew W->W.cell? ⟨g3,j,none⟩=some (.int .u8 (U8 (bo l)[j])):=fun W P=>eR j B7 W (aa I (aa (VW _ _).drew P));have E1:∀W,Old wr.drew W->W.cell? ⟨g,o+(k+j),none⟩=some (.int .u8 (U8 r[j])):=fun W P=>eB j B6 W (aa I (aa (VW _ _).drew P));have v1:(j:Int)<8+(N:Int):=oA;have v2:(k:Int)+(j:Int)<(len:Int):=oA;have v3:IntKind.i64.wrap ((k:Int)+(j:Int))=(k:Int)+(j:Int):=VD _ oA;have v4:(0:Int)<=(k:Int)+(j:Int):=oA;have v5:((k:Int)+(j:Int)).toNat=k+j:=oA;have q:=Cf r (bo l) j B6 B7;cases t:(r.take j==(bo l).take j) with
       |true=>
        rw [t] at q;by_cases hx:r[j]=(bo l)[j]
        .have u2:(U8 (bo l)[j]==U8 r[j])=true:=(by rw [hx];exact BEq.rfl);go_wp2_with fail;refine aB (0::1::2::3::4::5::6::7::8::9::10::11::12::13::14::[]) krA krA cdA ?_
         repeat refine lxA ?_
         refine bJ ?_;go_wp2_with fail;go_roundg (gk-1)
         case measure=>omega
         case rel=>exact ⟨j+1,oA,gnA,by rw [q,hx];simp,aa I (VW _ _).drew⟩
        .have u2:(U8 (bo l)[j]==U8 r[j])=false:=by
          have:=BX (fun e=>hx e.symm);simpa [bne] using this
         go_wp2_with fail;refine aB (0::1::2::3::4::5::6::7::8::9::10::11::12::13::14::[]) krA krA cdA ?_
         repeat refine lxA ?_
         refine bJ ?_;go_wp2_with fail;go_roundg (gk-1)
         case measure=>omega
         case rel=>exact ⟨j+1,oA,gnA,by rw [q];simpa using hx,aa I (VW _ _).drew⟩
       |false=>
        rw [t] at q;go_wp2_with fail;go_quiet (fail);go_wp2_with fail;go_roundg (gk-1)
        case measure=>omega
        case rel=>exact ⟨j+1,oA,gnA,by rw [q];rfl,aa I (bS (VW _ _) _)⟩
      .have hje:j=8:=oA;have u1:decide ((j:Int)<8)=false:=soA;have C4:(r.take j==(bo l).take j)=je r:=(by rw [hje,<-y,B5,J];rfl);rw [C4];cases B9:je r with
       |true=>
        have D8:=HF.out;have D2:Below w.heap.size w wr:=aa B1 I;have C5:=((A9.old T).old I);have C0:=(O.old (aa A3 T)).old I;have A5:=C0.old ((VW _ wr).alloc (VU _) (.cells #[.slice Z N c2] 22));have C6:=Own.lit (w:=wr) (B:=0) (e:=22) #[.slice Z N c2] [.slice Z N c2] 1 rfl rfl (Vt _) mxA;have A6:=aa D2 ((VW _ wr).alloc (VU _) (.cells #[.slice Z N c2] 22));go_wp2_with (at_builtin;refine al rfl _ _ 124 rfl tX rfl A5.1 rfl C6.row rfl (by intro u hu;rw [VS.1 hu];rfl) mxA oA A6.size ?_);intro a4 c4 w4 C1 CK;have C7:l.length=N:=(by rw [<-J,A2]);have C8:=A5.snoc dcA CK C7 ((by simpa [J] using C5:Own wr w.heap.size 5 1 Z N c2 (l.map bv)).alloc _) (VU _) C1;have D3:=A5.1.grown A6 (VU _) CK A6.size;have CW:=A8 (by rw [y];exact B9);rw [D0,J] at CW;go_wp2_with fail;go_roundg f
        case measure=>omega
        case rel=>exact ⟨a4,n1+1,c4,k+(8+N),_,_,rfl,C8,gnA,by rw [HL.out];omega,by rw [jD];omega,CW,D3⟩
       |false=>
        go_wp2_with fail;go_ret2;have e:=iq Y.out (.inr (by rw [y];exact B9));refine ⟨U,n1,V,vs,?_,by rw [e];exact ((O.old (aa A3 T)).old I),aa B1 I⟩;rw [e,A.out];simp;omega
    .have hno:=yW (b:=E::F::G::H::d0::d1::d2::d3::m) (by rw [S,A.out];exact A0);have e:=iq Y.out (.inr hno);have d:=Hd e;have HA:=Hd A0;clear A0 hno e;by_cases b1:1<=N
     .have t3:decide ((N:Int)<1)=false:=soA;by_cases b2:N<=65536
      .have t4:decide ((65536:Int)<(N:Int))=false:=soA;have t5:decide ((len:Int)-(k:Int)-8<(N:Int))=true:=(by have:=HA.out;simp;omega);go_wp2_with fail;go_quiet (fail);go_wp2_with fail;go_ret2;refine ⟨U,n1,V,vs,?_,by rw [d.out];exact O.drew _,bS M _⟩;rw [d.out,A.out];simp;omega
      .have t4:decide ((65536:Int)<(N:Int))=true:=soA;go_wp2_with fail;go_quiet (fail);go_wp2_with fail;go_ret2;refine ⟨U,n1,V,vs,?_,by rw [d.out];exact O.drew _,bS M _⟩;rw [d.out,A.out];simp;omega
     .have t3:decide ((N:Int)<1)=true:=soA;go_wp2_with fail;go_quiet (fail);go_wp2_with fail;go_ret2;refine ⟨U,n1,V,vs,?_,by rw [d.out];exact O.drew _,bS M _⟩;rw [d.out,A.out];simp;omega
def fi (m:Nat):Int:=if m=0 then 2 else if 65536<m then 3 else 0
def gR (l:Le):Le:=if l.length=0\/65536<l.length then [] else bo l
theorem Az (a:Lt) (len cap:Nat) (l:Le) (w:As) (G:aj w a l) (A:l.length=len):
  Calls prog 115 #[.slice a len cap] w fun e w'=>∃a' F c',e= .returned (.tuple #[.slice a' F c',.int .i64 (fi len)])/\aj w' a' (gR l)/\(gR l).length=F/\Below w.heap.size w w':=by
 by_cases E:len=0
 .subst E;refine (xE a cap w).mono ?_;rintro e w' ⟨rfl,rfl⟩;have e:gR l=[]:=(by unfold gR;rw [Vz (.inl A)]);exact ⟨none,0,0,rfl,by rw [e];exact av.nil _ _,by rw [e];rfl,VW _ _⟩
 .by_cases h1:65536<len
  .refine (xF a len cap w h1).mono ?_;rintro e w' ⟨rfl,rfl⟩;have e:gR l=[]:=(by unfold gR;rw [Vz (.inr oA)]);exact ⟨none,0,0,by unfold fi;rw [VV E,Vz h1],by rw [e];exact av.nil _ _,by rw [e];rfl,VW _ _⟩
  .refine (Ay a len cap l w G A oA oA).mono ?_;rintro e w' ⟨a',c',rfl,h,H⟩;have e:gR l=bo l:=(by unfold gR;rw [VV oA]);exact ⟨a',8+len,c',by unfold fi;rw [VV E,VV h1],by rw [e];exact h.row,by rw [e,bU,A],H⟩
theorem rI (a:Lt) (len cap:Nat) (l:Le) (w:As) (G:aj w a l) (A:l.length=len):
  Calls prog 134 #[.slice a len cap] w fun e w'=>∃a' F c',e= .returned (.tuple #[.slice a' F c',.int .i64 (fi len)])/\aj w' a' (gR l)/\(gR l).length=F/\Below w.heap.size w w':=by
 by_cases E:len=0
 .subst E;refine (qo a cap w).mono ?_;rintro e w' ⟨rfl,rfl⟩;have e:gR l=[]:=(by unfold gR;rw [Vz (.inl A)]);exact ⟨none,0,0,rfl,by rw [e];exact av.nil _ _,by rw [e];rfl,VW _ _⟩
 .by_cases h1:65536<len
  .refine (qp a len cap w h1).mono ?_;rintro e w' ⟨rfl,rfl⟩;have e:gR l=[]:=(by unfold gR;rw [Vz (.inr oA)]);exact ⟨none,0,0,by unfold fi;rw [VV E,Vz h1],by rw [e];exact av.nil _ _,by rw [e];rfl,VW _ _⟩
  .refine (lP a len cap l w G A oA oA).mono ?_;rintro e w' ⟨a',c',rfl,h,H⟩;have e:gR l=bo l:=(by unfold gR;rw [VV oA]);exact ⟨a',8+len,c',by unfold fi;rw [VV E,VV h1],by rw [e];exact h.row,by rw [e,bU,A],H⟩
end
section
open Go.RowKit Go.Maps
section
variable {w w1 w2 w3:As} {B:Nat} {r:aG} {R:jo}
theorem il {a:Lt} {c x:Nat} (h:bI a c=some x):∃A,a=some A/\x=A.block:=by
 unfold bI at h;split at h
 .cases h
 .rw [WH] at h;obtain ⟨A,E,rfl⟩:=h;exact ⟨A,E,rfl⟩
theorem Cz {a:Lt} {c:Nat} {A:Addr} (h:a=some A) (E:0<c):bI a c=some A.block:=by
 subst h;unfold bI;rw [VV oA];rfl
theorem Bo (h:DL w1 B r R) (hB:B<=w1.heap.size) {A:Lt} {m C:Nat} {l:Le} (T:Below w1.heap.size w1 w2) (hm:l.length=m) (hx:Own w2 w1.heap.size 5 1 A m C (l.map bv)) {H:Lt} {c2:Nat}
  (h':Own w3 B 22 1 H (R.ls.length+1) c2 (R.vs++ [.slice A m C])) (J:w2.grownBy w3 (bI R.a R.c)) (L:bI H c2=bI R.a R.c\/∃b,bI H c2=some b/\w2.heap.size<=b) (A8:R.ls.length<4096) (A2:l.length<=65536):
  iU B w1 r R (w3.setCell ⟨R.l,2,none⟩ (.slice H (R.ls.length+1) c2)) r {R with a:=H,c:=c2,vs:=R.vs++ [.slice A m C],ls:=R.ls++ [l]}:=by
 have A5:0<c2:=(by have:=h'.le;omega);have A0:=h.log.rows.old T;have A6:w2.grownBy w3 (Value.slice R.a R.ls.length R.c).ownBlock:=by
  refine ⟨J.os,J.tape,J.output,J.size,fun k M o=>J.block k M fun e=> ?_⟩;obtain ⟨E,G,rfl⟩:=il e.symm;rw [G] at o;exact o rfl
 have U:=A0.snoc (x:=l) dcA A6 hm hx hB h';have q:aJ (fun k=>k=R.l\/∃E,R.a=some E/\k=E.block) w1 (w3.setCell ⟨R.l,2,none⟩ (.slice H (R.ls.length+1) c2)):=by
  refine aJ.setCell ?_ (.inl (.inl rfl)) _;refine (aJ.of_below T).trans (aJ.of_grown (F:=fun k=>∃E,R.a=some E/\k=E.block) J fun k e=>il e) fun k M=> .inl (.inr M)
 have t:∀k,(k=R.l\/∃E,R.a=some E/\k=E.block)->dP R k:=fun k M=>M.elim .inl fun h=> .inr (.inl h);have A3:∀E,H=some E->(∃S,R.a=some S/\E.block=S.block)\/w1.heap.size<=E.block:=fun E Y=>by
  have e:=Cz Y A5;rcases L with L|⟨b,L,A7⟩
  .rw [e] at L;exact .inl (il L.symm)
  .rw [e] at L;cases L;exact .inr (Vd T.size A7)
 have hA:∀E N O,Value.slice (some E) N O= .slice A m C->w1.heap.size<=E.block:=fun E N O e=>by
  simp only [Vi] at e;exact (hx.block_lt e.1.symm).1
 have V:Blk w3 R.l #[.pointer (some ⟨r.d,0,none⟩),.string R.nm,.slice R.a R.ls.length R.c,.int .i64 (R.sure:Int)] 164:=by
  refine (h.log.blk.old T).grown J fun e=> ?_;obtain ⟨E,G,Z⟩:=il e;obtain ⟨_,_,y,P⟩:=h.log.rows.1.block_lt G;exact Blk.ne P h.log.blk dcA Z.symm
 have g:∀x,x≠R.l->(w3.setCell ⟨R.l,2,none⟩ (.slice H (R.ls.length+1) c2)).heap[x]? =w3.heap[x]? :=fun x hx=>Vq w3 ⟨R.l,2,none⟩ x _ hx;have A4:lL (w3.setCell ⟨R.l,2,none⟩ (.slice H (R.ls.length+1) c2)) B r.d {R with a:=H,c:=c2,vs:=R.vs++ [.slice A m C],ls:=R.ls++ [l]}:=by
  refine ⟨h.log.ge,?_,?_,soA,?_,h.log.nmz,by have:=h.log.sle;simp;omega⟩
  .have:=V.set 2 (.slice H (R.ls.length+1) c2);simpa using this
  .rw [show (R.ls++ [l]).length=R.ls.length+1 by simp];refine U.keep (fun x hx=>g _ ?_) (fun E N O I=>g _ ?_)
   .obtain ⟨_,_,y,P⟩:=U.1.block_lt hx;exact Blk.ne P V dcA
   .obtain ⟨_,_,y,P⟩:=U.inner I;exact Blk.ne P V dcA
  .intro x hx;rcases Ve.1 hx with hx|hx
   .exact h.log.lens x hx
   .rw [VS.1 hx];exact A2
 have A1:aK (w3.setCell ⟨R.l,2,none⟩ (.slice H (R.ls.length+1) c2)) B r:=h.disk.turn q fun x hx hF=>h.apart x (t x hF) hx;have j:∀x,dP {R with a:=H,c:=c2,vs:=R.vs++ [.slice A m C],ls:=R.ls++ [l]} x->dP R x\/w1.heap.size<=x:=by
  intro x hx;rcases hx with rfl|⟨E,Y,rfl⟩|⟨E,N,O,I,rfl⟩
  .exact .inl (.inl rfl)
  .rcases A3 E Y with ⟨S,G,Z⟩|G
   .exact .inl (.inr (.inl ⟨S,G,Z⟩))
   .exact .inr G
  .rcases Ve.1 I with I|I
   .exact .inl (.inr (.inr ⟨E,N,O,I,rfl⟩))
   .exact .inr (hA E N O (VS.1 I))
 refine ⟨q.mono fun k M=> .inr (t k M),⟨A1,A4,fun x hx hf=> ?_⟩,fun x hx=> ?_,rfl,rfl,rfl⟩
 .rcases j x hx with G|G
  .exact h.apart x G hf
  .have:=(h.disk.lt hf).2;omega
 .rcases hx with hx|hx
  .exact .inl (.inl hx)
  .rcases j x hx with G|G
   .exact .inl (.inr G)
   .exact .inr G
theorem Ff (h:DL w B r R) (n:Nat) (I:n=R.ls.length):iU B w r R (w.setCell ⟨R.l,3,none⟩ (.int .i64 (n:Int))) r {R with sure:=n}:=by
 subst I;have E:aJ (fun k=>k=R.l) w (w.setCell ⟨R.l,3,none⟩ (.int .i64 (R.ls.length:Int))):=(aJ.refl (fun k=>k=R.l) w).setCell (x:=⟨R.l,3,none⟩) (.inl rfl) _;have F:∀x,x≠R.l->(w.setCell ⟨R.l,3,none⟩ (.int .i64 (R.ls.length:Int))).heap[x]? =w.heap[x]? :=fun x hx=>Vq w ⟨R.l,3,none⟩ x _ hx;refine ⟨E.mono fun k J=> .inr (.inl J),⟨h.disk.turn E fun x hx e=>h.apart x (.inl e) hx,⟨h.log.ge,?_,?_,h.log.cnt,h.log.lens,h.log.nmz,VU _⟩,h.apart⟩,fun x hx=> .inl hx,rfl,rfl,rfl⟩
 .have:=h.log.blk.set 3 (.int .i64 (R.ls.length:Int));simpa using this
 .refine h.log.rows.keep (fun x hx=>F _ ?_) (fun L M N G=>F _ ?_)
  .obtain ⟨_,_,H,A⟩:=h.log.rows.1.block_lt hx;exact Blk.ne A h.log.blk dcA
  .obtain ⟨_,_,H,A⟩:=h.log.rows.inner G;exact Blk.ne A h.log.blk dcA
end
def iH (p:aN) (R:jo) (l:Le):Int:=if fi l.length≠0 then fi l.length else if 4096<=R.ls.length then 100 else (bw p R.nm (bo l)).2
def kq (p:aN) (R:jo) (l:Le):aN:=if fi l.length≠0 then p else if 4096<=R.ls.length then p else (bw p R.nm (bo l)).1
def mr (p:aN) (R:jo) (l:Le):List Le:=if iH p R l=0 then R.ls++ [l] else R.ls
def oU (p:aN) (R:jo) (l:Le):Int:=if iH p R l=0 then (R.ls.length:Int) else 0
theorem vW {p:aN} {R:jo} {l:Le} (h:fi l.length=0) (A:4096<=R.ls.length):iH p R l=100/\oU p R l=0/\kq p R l=p/\mr p R l=R.ls:=by
 have e:iH p R l=100:=(by unfold iH;rw [VV (by simp [h]),Vz A]);refine ⟨e,by unfold oU;rw [e];rfl,by unfold kq;rw [VV (by simp [h]),Vz A],by unfold mr;rw [e];rfl⟩
theorem zE {p:aN} {R:jo} {l:Le} (h:fi l.length≠0):iH p R l=fi l.length/\oU p R l=0/\kq p R l=p/\mr p R l=R.ls:=by
 have e:iH p R l=fi l.length:=(by unfold iH;rw [Vz h]);refine ⟨e,by unfold oU;rw [e,VV h],by unfold kq;rw [Vz h],by unfold mr;rw [e,VV h]⟩
theorem vX {p:aN} {R:jo} {l:Le} (h:fi l.length=0) (A:¬4096<=R.ls.length) (E:(bw p R.nm (bo l)).2≠0):iH p R l=(bw p R.nm (bo l)).2/\oU p R l=0/\kq p R l=(bw p R.nm (bo l)).1/\mr p R l=R.ls:=by
 have e:iH p R l=(bw p R.nm (bo l)).2:=(by unfold iH;rw [VV (by simp [h]),VV A]);refine ⟨e,by unfold oU;rw [e,VV E],by unfold kq;rw [VV (by simp [h]),VV A],by unfold mr;rw [e,VV E]⟩
theorem Du {p:aN} {R:jo} {l:Le} (h:fi l.length=0) (A:¬4096<=R.ls.length) (E:(bw p R.nm (bo l)).2=0):iH p R l=0/\oU p R l=(R.ls.length:Int)/\kq p R l=(bw p R.nm (bo l)).1/\mr p R l=R.ls++ [l]:=by
 have e:iH p R l=0:=(by unfold iH;rw [VV (by simp [h]),VV A,E]);refine ⟨e,by unfold oU;rw [e,Vz rfl],by unfold kq;rw [VV (by simp [h]),VV A],by unfold mr;rw [e,Vz rfl]⟩
theorem vx {l:Le} (h:fi l.length=0):1<=l.length/\l.length<=65536/\gR l=bo l:=by
 unfold fi at h;unfold gR;split at h
 .omega
 .split at h
  .omega
  .exact ⟨oA,oA,by rw [VV oA]⟩
def EM (B:Nat) (w:As) (r:aG) (R:jo) (l:Le) (e:Ending) (w':As):Prop:=
 e= .returned (.tuple #[.int .i64 (oU r.p R l),.int .i64 (iH r.p R l)])/\∃r' R',r'.p=kq r.p R l/\R'.ls=mr r.p R l/\R'.sure=R.sure/\iU B w r R w' r' R'
theorem xV (w:As) (B:Nat) (r:aG) (R:jo) (h:DL w B r R) (hB:B<=w.heap.size) (a:Lt) (len cap:Nat) (l:Le) (hl:aj w a l) (y:l.length=len) (B7:l≠ []->∀t,a=some t->¬(fp r t.block\/dP R t.block)):
  Calls prog 55 #[.pointer (some ⟨R.l,0,none⟩),.slice a len cap] w fun e w'=>EM B w r R l e w':=by
 have O:=Hd y;have J:=Az a len cap l w hl y;clear y;have A3:=h.log.blk.rule;by_cases H:fi l.length=0
 .rw [<-O.out,H] at J;have g:=Hd (vx H);by_cases j:4096<=R.ls.length
  .have HC:=Hd (vW (p:=r.p) H j);have t0:decide ((4096:Int)<=(R.ls.length:Int))=true:=soA;clear H j;go_enter func55,ntmps55;go_wp2_with fail;rw [O.out] at J;refine J.mono ?_;clear J;rintro e w1 ⟨a1,n1,I,rfl,Y,S,L⟩;have A:=h.old L;have A0:=A.log.blk.rule;clear A3;go_wp2_with fail;go_ret2;obtain ⟨I,c2,F,N⟩:=HC.out;exact ⟨by rw [I,c2];first|rfl|simp,r,R,F.symm,N.symm,rfl,iU.old h L⟩
  .have t0:decide ((4096:Int)<=(R.ls.length:Int))=false:=soA;have T:=Hd j;have HE:=Hd H;clear H j;go_enter func55,ntmps55;go_wp2_with fail;rw [O.out] at J;refine J.mono ?_;clear J;rintro e w1 ⟨a1,n1,I,rfl,Y,S,L⟩;rw [g.out.2.2] at Y S;have A:=h.old L;have A0:=A.log.blk.rule;have B3:=L.size;have A6:B<=w1.drew.heap.size:=Vd hB B3;have A8:DL w1.drew B r R:=A.keep fun _ _=>rfl;have B9:=Hd S;have B4:n1<=maxLen:=(by have:=g.out.2.1;rw [<-S,bU];unfold maxLen;omega);clear A3 S;go_wp2_with fail;have Z:∀W,au (fun x=>x=R.l) w1.drew W->Blk W R.l #[.pointer (some ⟨r.d,0,none⟩),.string R.nm,.slice R.a R.ls.length R.c,.int .i64 (R.sure:Int)] 164:=fun W P=>(P.2 R.l rfl).trans A.log.blk;have l0:=fun W (P:au (fun x=>x=R.l) w1.drew W)=>(Z W P).rule;clear A0;refine ah false (au (fun x=>x=R.l)) (au.refl _) (fun _ _ _ A E=>au.trans A E) (.step 0 (.step 1 (.step 2 (.step 3 (.step 4 (.step 5 (.step 6 (.step 7 (.step 8 (.step 9 (.step 10 (.step 11 (.step 12 .done))))))))))))) krA krA cdA ?_
   repeat refine txA ?_
   refine am rfl rfl rfA (fun K G=> ?_);go_wp2_with fail;refine (sS w1.drew B r R.nm A.disk.drew A6 A.log.nmz a1 n1 I (bo l) (Y.drew) B9.out B4).mono ?_;rintro e w2 ⟨rfl,U,A4,b⟩;have A1:iU B w1.drew r R w2 U R:=bL.log b A8;refine G _ _ ⟨b.turn.size,fun x hx=>by subst hx;exact b.turn.block R.l A.log.blk.lt (A.apart R.l (.inl rfl))⟩ ?_;clear G K l0 Z
   repeat refine txA ?_
   refine aq ?_;have A2:iU B w r R w2 U R:=(iU.old h (L.drew)).trans A1;have E:=A1.at';have B5:=E.log.blk.rule;have A9:B<=w2.heap.size:=Vd A6 b.turn.size;by_cases M:(bw r.p R.nm (bo l)).2=0
   .have HC:=Hd (Du (p:=r.p) (R:=R) HE.out T.out M);rw [M];have CK:=Hd M;have CW:=Hd A4;clear M A4 A A8 A1 b Y;go_wp2_with fail;have Z:∀W,au (fun x=>x=R.l) w2.drew W->Blk W R.l #[.pointer (some ⟨U.d,0,none⟩),.string R.nm,.slice R.a R.ls.length R.c,.int .i64 (R.sure:Int)] 164:=fun W P=>(P.2 R.l rfl).trans E.log.blk;have l0:=fun W (P:au (fun x=>x=R.l) w2.drew W)=>(Z W P).rule;clear B5;refine ah true (au (fun x=>x=R.l)) (au.refl _) (fun _ _ _ A E=>au.trans A E) (.step 0 (.step 1 (.step 2 (.step 3 (.step 4 (.step 5 (.step 6 (.step 7 (.step 8 (.step 9 (.step 10 (.step 11 .done)))))))))))) krA krA cdA ?_
    repeat refine txA ?_
    refine am rfl rfl rfA (fun K G=> ?_);go_wp2_with fail;have C0:aj w2.drew a l:=av.drew (av.turn hl A2.turn (B7 (fun e=>by have:=g.out.1;rw [e] at this;simp at this)));refine (jU a len cap l w2.drew C0 O.out (by have:=g.out.2.1;have:=O.out;omega)).mono ?_;rintro e w3 ⟨V,F,rfl,B1,A5⟩;refine G _ _ (au.below A5 fun x hx=>by subst hx;exact E.log.blk.lt) ?_;clear G K
    repeat refine txA ?_
    refine am rfl rfl rfA (fun K G=> ?_);go_wp2_with fail;have m:Below w3.heap.size w3 (w3.alloc (.cells #[.slice V len F] 22)):=(VW _ _).alloc (VU _) _;have o:Below w2.heap.size w2 (w3.alloc (.cells #[.slice V len F] 22)):=aa (aa (VW _ w2).drew A5) m;have BY:R.l<w3.heap.size:=VP E.log.blk.lt (show w2.heap.size<=w3.heap.size from A5.size);refine G _ _ (au.below m fun x hx=>by subst hx;exact BY) ?_;clear G K
    repeat refine txA ?_
    refine am rfl rfl rfA (fun K G=> ?_);have C1:B<=(w3.alloc (.cells #[.slice V len F] 22)).heap.size:=Vd A9 o.size;refine iY (.tmp 46) (.tmp 49) 124 rfl tX rfl (E.log.rows.1.old o) rfl (av.new' w3 #[.slice V len F] 22 _ rfl) rfl oA (by exact de _ rfl) (by have:=T.out;unfold maxLen;omega) (by have:=T.out;omega) C1 ?_;intro a4 N w4 B2 q C2;have C3:R.l<(w3.alloc (.cells #[.slice V len F] 22)).heap.size:=VP BY m.size;have A7:∀(H:bI R.a R.c=some R.l),False:=fun e=>by
     obtain ⟨t,q1,q2⟩:=il e;obtain ⟨_,_,C5,B6⟩:=E.log.rows.1.block_lt q1;exact Blk.ne B6 E.log.blk dcA q2.symm
    refine G _ _ ⟨q.size,fun x hx=>by subst hx;exact q.block R.l C3 fun e=>A7 e.symm⟩ ?_;clear G K l0 Z;have C4:=Hd (Bo E A9 o O.out (B1.old m) B2 q C2 (by have:=T.out;omega) g.out.2.1);have B0:Blk w4 R.l #[.pointer (some ⟨U.d,0,none⟩),.string R.nm,.slice R.a R.ls.length R.c,.int .i64 (R.sure:Int)] 164:=(E.log.blk.old o).grown q A7;have c0:=B0.rule;have I:=B0.free
    repeat refine txA ?_
    refine az rfl rfl rfA (fun K G=> ?_);go_wp2_with fail;refine aq ?_;have c2:(w4.setCell ⟨R.l,2,none⟩ (.slice a4 (R.ls.length+1) N)).cell? ⟨R.l,2,none⟩=some (.slice a4 (R.ls.length+1) N):=World.cell?_setCell_same' w4 _ _ (by rw [c0];rfl);clear c0 I;go_wp2_with fail;go_ret2;obtain ⟨q1,q2,q3,q4⟩:=HC.out;have hw:wrap64 (R.ls.length:Int)=(R.ls.length:Int):=Yk _ (by have:=T.out;omega);refine ⟨by rw [q1,q2];simp [hw],U,{R with a:=a4,c:=N,vs:=R.vs++ [.slice V len F],ls:=R.ls++ [l]},CW.out.trans q3.symm,q4.symm,rfl,A2.trans C4.out⟩
   .have HC:=Hd (vX (p:=r.p) (R:=R) HE.out T.out M);have CK:=Hd M;have t1:((bw r.p R.nm (bo l)).2==0)=false:=(by simpa using M);have t2:((bw r.p R.nm (bo l)).2 !=0)=true:=(by simpa using M);clear M;go_wp2_with fail;go_ret2;obtain ⟨I,c2,F,N⟩:=HC.out;exact ⟨by rw [I,c2];first|rfl|simp,U,R,A4.trans F.symm,N.symm,rfl,A2⟩
 .have HC:=Hd (zE (p:=r.p) (R:=R) H);have HE:=Hd H;have t0:(fi len==0)=false:=(by rw [<-O.out];simpa using H);clear H;go_enter func55,ntmps55;go_wp2_with fail;refine J.mono ?_;clear J;rintro e w1 ⟨a1,n1,I,rfl,Y,S,L⟩;have A:=h.old L;have A0:=A.log.blk.rule;clear A3;go_wp2_with fail;go_ret2;obtain ⟨I,c2,F,N⟩:=HC.out;exact ⟨by rw [I,c2,O.out];first|rfl|simp,r,R,F.symm,N.symm,rfl,iU.old h L⟩
def sy (p:aN) (R:jo):Nat:=if (et p R.nm).2=0 then R.ls.length else R.sure
theorem Dp (w:As) (B:Nat) (r:aG) (R:jo) (h:DL w B r R) (T:B<=w.heap.size):
  Calls prog 57 #[.pointer (some ⟨R.l,0,none⟩)] w fun e w'=>e= .returned (.int .i64 (et r.p R.nm).2)/\∃r' J,r'.p=(et r.p R.nm).1/\J.ls=R.ls/\J.sure=sy r.p R/\iU B w r R w' r' J:=by
 have O:∀W,au (fun x=>x=R.l) w.drew W->Blk W R.l #[.pointer (some ⟨r.d,0,none⟩),.string R.nm,.slice R.a R.ls.length R.c,.int .i64 (R.sure:Int)] 164:=fun W L=>(L.2 R.l rfl).trans h.log.blk;have U:=fun W (L:au (fun x=>x=R.l) w.drew W)=>(O W L).rule;have V:DL w.drew B r R:=h.keep fun _ _=>rfl;go_enter func57,ntmps57;go_wp2_with fail;refine ah false (au (fun x=>x=R.l)) (au.refl _) (fun _ _ _ Y E=>au.trans Y E) (.step 0 (.step 1 (.step 2 (.step 3 (.step 4 (.step 5 (.step 6 (.step 7 (.step 8 (.step 9 (.step 10 (.step 11 .done)))))))))))) krA krA cdA ?_
 repeat refine txA ?_
 refine am rfl rfl rfA (fun K P=> ?_);go_wp2_with fail;refine (yS w.drew B r R.nm h.disk.drew T h.log.nmz).mono ?_;rintro e w2 ⟨rfl,G,H,I⟩;have M:iU B w.drew r R w2 G R:=bL.log I V;have N:iU B w r R w2 G R:=(iU.old h ((VW _ w).drew)).trans M;refine P _ _ ⟨I.turn.size,fun x hx=>by subst hx;exact I.turn.block R.l h.log.blk.lt (h.apart R.l (.inl rfl))⟩ ?_;clear P K U O
 repeat refine txA ?_
 refine aq ?_;have E:=M.at';have Z:=E.log.blk.rule;have b:=E.log.blk.free;by_cases A:(et r.p R.nm).2=0
 .have HR:=Hd H;have S:=Hd (Ff E R.ls.length rfl);have F:=Hd A;rw [A];clear H A;go_wp2_with fail;go_ret;exact ⟨by rw [F.out];first|rfl|simp,G,{R with sure:=R.ls.length},HR.out,rfl,by unfold sy;rw [Vz F.out],N.trans S.out⟩
 .have t1:((et r.p R.nm).2==0)=false:=(by simpa using A);have F:=Hd A;clear A;go_wp2_with fail;go_ret;exact ⟨rfl,G,R,H,rfl,by unfold sy;rw [VV F.out],N⟩
theorem vk (f:Nat) (b:Le):∀x∈(scan f b).1,x.length<=65536:=by
 induction f generalizing b with
 |zero=>simp [scan]
 |succ f ih=>
  by_cases h:je b=true
  .rw [jK h];intro x hx;rcases Vk.1 hx with rfl|hx
   .unfold je at h;simp only [Vh,XX] at h;unfold gw;rw [ltA];omega
   .exact ih _ x hx
  .rw [ip (by simpa using h)];simp
theorem jM {p:aN} (h:dY p) (nm:bB):(bN p nm).1.length<=1048576:=by
 unfold bN;split
 .simp
 .cases hf:fF p nm with
  |none=>simp
  |some f=>exact h.size f (DV hf).1
def GV (B:Nat) (w:As) (r:aG) (nm:bB) (e:Ending) (w':As):Prop:=
 ∃r',r'.p=gN r.p nm/\bL B w r w' r'/\
  ((en r.p nm≠0/\e= .returned (.tuple #[.pointer none,.int .i64 0,.int .i64 (en r.p nm)]))\/
   (en r.p nm=0/\∃R,e= .returned (.tuple #[.pointer (some ⟨R.l,0,none⟩),.int .i64 (iG r.p nm:Int),.int .i64 0])/\DL w' B r' R/\R.nm=nm/\R.ls=(dt r.p nm).1/\R.sure=R.ls.length/\∀x,dP R x->w.heap.size<=x))
theorem ub {p:aN} {nm:bB} (h:(cQ p nm).2≠0):en p nm=(cQ p nm).2/\gN p nm=(cQ p nm).1:=⟨by unfold en;rw [Vz h],by unfold gN;rw [Vz h]⟩
theorem qx {p:aN} {nm:bB} (h:(cQ p nm).2=0) (A:(br p nm).2≠0):en p nm=(br p nm).2/\gN p nm=(br p nm).1:=
 ⟨by unfold en;rw [VV (by simp [h]),Vz A],by unfold gN;rw [VV (by simp [h]),Vz A]⟩
theorem nO {p:aN} {nm:bB} (h:(cQ p nm).2=0) (A:(br p nm).2=0):en p nm=(eo p nm).2/\gN p nm=(eo p nm).1:=
 ⟨by unfold en;rw [VV (by simp [h]),VV (by simp [A])],by unfold gN;rw [VV (by simp [h]),VV (by simp [A])]⟩
theorem JE {w0 w:As} {B:Nat} {r:aG} {nm:bB} (h:aK w B r) (M:w0.heap.size<=w.heap.size) (E:B<=w0.heap.size) (N:nm.size<=maxLen) {a:Lt} {n c:Nat} {vs:AT} {ls:List Le} (F:aU w w0.heap.size 22 5 a n c vs ls) (I:ls.length<=4096) (J:∀x∈ls,x.length<=65536)
  (L:∀x,((∃A,a=some A/\x=A.block)\/∃A m C,Value.slice (some A) m C∈vs/\x=A.block)->¬fp r x):
  DL (w.alloc (.cells #[.pointer (some ⟨r.d,0,none⟩),.string nm,.slice a n c,.int .i64 (n:Int)] 164)) B r ⟨w.heap.size,nm,a,c,vs,ls,ls.length⟩:=by
 have O:=F.length;subst O;have G:Below w.heap.size w (w.alloc (.cells #[.pointer (some ⟨r.d,0,none⟩),.string nm,.slice a ls.length c,.int .i64 (ls.length:Int)] 164)):=(VW _ _).alloc (VU _) _;refine ⟨h.old G,⟨Vd E M,Blk.new _ _ _,(F.lower E).old G,I,J,N,VU _⟩,fun x hx H=> ?_⟩;rcases hx with rfl|hx
 .have:=(h.lt H).2;exact Nat.lt_irrefl _ this
 .exact L x hx H
theorem vV (w:As) (B:Nat) (r:aG) (nm:bB) (h:aK w B r) (hB:B<=w.heap.size) (t:nm.size<=maxLen):
  Calls prog 47 #[.pointer (some ⟨r.d,0,none⟩),.string nm] w fun e w'=>GV B w r nm e w':=by
 have B3:=Hd (jM h.ok nm);go_enter func47,ntmps47;go_wp2_with fail;refine (zj w B r nm h t).mono ?_;rintro e w1 ⟨a,n,c,rfl,hn,j,V⟩;have y:=Hd hn;have h1:=h.old V;have A8:bL B w r w1 r:=⟨aJ.of_below V,h1,fun _ hx=> .inl hx,rfl⟩;have B4:B<=w1.heap.size:=Vd hB V.size;clear hn;go_upto_if 19 with fail;go_cut [6] from 19 (fun v wx=>v= .int .i64 (cQ r.p nm).2/\∃F,F.p=(cQ r.p nm).1/\bL B w r wx F/\(∀x,fp F x->fp r x\/w1.heap.size<=x)/\wx.heap.size≥w1.heap.size/\Own wx w.heap.size 5 1 a n c ((bN r.p nm).1.map bv))
 case first=>
  by_cases N:(bN r.p nm).2=4
  .have t0:((bN r.p nm).2==4)=true:=(by simpa using N);have HM:=Hd (show cQ r.p nm=fd r.p nm by unfold cQ;rw [Vz N]);clear N;go_wp2_with fail;refine (Gd w1 B r nm h1 B4 t).mono ?_;rintro e w2 ⟨rfl,F,A0,H⟩;go_wp2_with fail;go_meet
   case rel=>
    rw [HM.out];exact ⟨rfl,F,A0,A8.trans H,H.foot',H.turn.size,j.keepAt fun x hx=>H.turn.block x.block (j.block_lt hx).2.1 (fun G=>by
     have g1:=(j.block_lt hx).1;have g2:=(h.lt G).2;omega)⟩
  .have t0:((bN r.p nm).2==4)=false:=(by simpa using N);have HM:=Hd (show cQ r.p nm=(r.p,(bN r.p nm).2) by unfold cQ;rw [VV N]);clear N;go_wp2_with fail;go_meet
   case rel=>
    rw [HM.out];exact ⟨rfl,r,rfl,A8,fun x hx=> .inl hx,VU _,j⟩
 case rest=>
  obtain ⟨L,rfl⟩:∃L:World,L=wc:=⟨_,rfl⟩;obtain ⟨rfl,F,A0,H,CW,A1,A7⟩:=hcut;have h2:=H.at';have A9:=Hd A0;have C0:=H.d;have B5:B<=L.heap.size:=Vd B4 A1;clear A0 j h1 A8;by_cases S:(cQ r.p nm).2=0
  .have A2:=Hd S;rw [S];clear S;have A3:=Fp a n c (bN r.p nm).1 L A7.row y.out (by have:=B3.out;have:=y.out;omega) A7.le;rw [show scan ju (bN r.p nm).1=dt r.p nm from rfl] at A3;obtain ⟨bad,A4⟩:=At ((dt r.p nm).2.length);have C9:bad<=n:=(by have:=qf ju (bN r.p nm).1;have:=y.out;rw [A4];show (scan ju (bN r.p nm).1).2.length<=n;omega);rw [<-A4] at A3;have BY:=Hd A4;clear A4;go_step;go_wp2_with fail;refine A3.mono ?_;clear A3;rintro e w3 ⟨a2,n2,c2,vs,rfl,A,l⟩;have DO:n2<=4096:=(by have h9:(dt r.p nm).1.length<=ju:=nI ju _;have:=A.length;have:=jD;omega);have D0:n<=1048576:=(by have:=B3.out;have:=y.out;omega);have h3:=h2.old l;have C1:B<=w3.heap.size:=Vd B5 l.size;have o:∀x,fp F x->x<L.heap.size:=fun x hx=>(h2.lt hx).2;have A5:bL B w r w3 F:=H.trans ⟨aJ.of_below l,h3,fun _ hx=> .inl hx,rfl⟩;have C8:=l.size;clear A7 H;go_upto_if 32 with fail;go_cut [] from 32 (fun wx=>(br r.p nm).2=0/\∃P,P.p=(br r.p nm).1/\bL B w r wx P/\(∀x,fp P x->x<L.heap.size\/w3.heap.size<=x)/\w3.heap.size<=wx.heap.size/\aU wx L.heap.size 22 5 a2 n2 c2 vs (dt r.p nm).1)
   case first=>
    by_cases U:bad=0
    .have HC:=Hd (show br r.p nm=((cQ r.p nm).1,0) by unfold br;rw [<-BY.out,Vz U]);have t2:¬0<bad:=oA;have HB:=Hd U;clear U;go_wp2_with fail;go_meet
     case rel=>
      rw [HC.out];exact ⟨rfl,F,A9.out,A5,fun x hx=> .inl (o x hx),VU _,A⟩
    .have HC:=Hd (show br r.p nm=jF (cQ r.p nm).1 nm (((bN r.p nm).1.length-bad:Nat):Int) by unfold br;rw [<-BY.out,VV U]);have t2:0<bad:=oA;have HB:=Hd U;clear U;have hc:=yk w3 B F nm ((n:Int)-(bad:Int)) h3 t;have C2:=Hd (show jF F.p nm ((n:Int)-(bad:Int))=br r.p nm by
      rw [HC.out,A9.out,y.out,show ((n-bad:Nat):Int)=(n:Int)-(bad:Int) from by omega])
     rw [C2.out,C0] at hc;go_wp2_with fail;refine hc.mono ?_;clear hc;rintro e w4 ⟨rfl,P,Y,E⟩;by_cases I:(br r.p nm).2=0
     .have B0:=Hd I;rw [I];clear I;go_wp2_with fail;go_meet
      case rel=>
       refine ⟨B0.out,P,Y,A5.trans E,fun x hx=> ?_,E.turn.size,?_⟩
       .rcases E.foot' x hx with g|g
        .exact .inl (o x g)
        .exact .inr g
       .refine A.keep (fun x hx=>E.turn.block x.block (A.1.block_lt hx).2.1 fun G=> ?_) (fun T m C b=>E.turn.block T.block (A.inner b).2.1 fun G=> ?_)
        .have g1:=o _ G;have g2:=(A.1.block_lt hx).1;omega
        .have g1:=o _ G;have g2:=(A.inner b).1;omega
     .have HE:=Hd (qx A2.out I);have t3:((br r.p nm).2 !=0)=true:=(by simpa using I);have B0:=Hd I;clear I;go_wp2_with fail;go_ret3;refine ⟨P,Y.trans HE.out.2.symm,A5.trans E,.inl ⟨by rw [HE.out.1];exact B0.out,?_⟩⟩;rw [HE.out.1]
      first|rfl|simp
   case rest=>
    obtain ⟨I,P,Y,E,A6,B6,Z⟩:=hcut;have N:=E.at';have q:=Hd (nO A2.out I);have D1:=Hd Y;have C3:B<=wc.heap.size:=Vd C1 B6;have J:=yS wc B P nm N C3 t;rw [Y,show et (br r.p nm).1 nm=eo r.p nm from rfl,E.d] at J;clear Y I;go_step;go_wp2_with fail;refine J.mono ?_;clear J;rintro e w5 ⟨rfl,r3,B1,M⟩;have h5:=M.at';by_cases J:(eo r.p nm).2=0
    .have HS:=Hd (show en r.p nm=0 by rw [q.out.1];exact J);rw [J];have B7:r3.d=r.d:=M.d.trans E.d;have B9:aU w5 L.heap.size 22 5 a2 n2 c2 vs (dt r.p nm).1:=by
      refine Z.keep (fun x hx=>M.turn.block x.block (Z.1.block_lt hx).2.1 fun G=> ?_) (fun T m C b=>M.turn.block T.block (Z.inner b).2.1 fun G=> ?_)
      .rcases A6 _ G with g|g
       .have:=(Z.1.block_lt hx).1;omega
       .have:=(A.1.block_lt hx).2.1;omega
      .rcases A6 _ G with g|g
       .have:=(Z.inner b).1;omega
       .have:=(A.inner b).2.1;omega
     have CK:L.heap.size<=w5.heap.size:=Vd l.size (Vd B6 M.turn.size);have B2:=Hd (JE h5 CK B5 t B9 (by have:=A.length;omega) (vk ju _) (fun x hx G=>by
      have g0:L.heap.size<=x/\x<w3.heap.size:=by
       rcases hx with ⟨T,O,rfl⟩|⟨T,m,C,O,rfl⟩
       .exact ⟨(A.1.block_lt O).1,(A.1.block_lt O).2.1⟩
       .exact ⟨(A.inner O).1,(A.inner O).2.1⟩
      rcases M.foot' x G with g|g
      .rcases A6 x g with g|g<;>omega
      .omega))
     rw [B7] at B2;have C4:=Hd (E.trans M);have C5:=Hd (And.intro (A.length) (fun x (hx:dP ⟨w5.heap.size,nm,a2,c2,vs,(dt r.p nm).1,(dt r.p nm).1.length⟩ x)=>show w.heap.size<=x by
      rcases hx with rfl|⟨T,O,rfl⟩|⟨T,m,C,O,rfl⟩
      .exact Vd V.size (Vd A1 CK)
      .exact Vd V.size (Vd A1 (A.1.block_lt O).1)
      .exact Vd V.size (Vd A1 (A.inner O).1)))
     have C6:=Hd B1;clear J B9 Z A E M h5 N h3 h2 A5 B1 A6 o B7 CW;go_wp2_with fail;go_ret3;have eN:iG r.p nm=bad:=(by unfold iG;rw [Vz HS.out];exact BY.out.symm);refine ⟨r3,C6.out.trans q.out.2.symm,C4.out.trans ⟨aJ.of_below ((VW _ _).alloc (VU _) _),B2.out.disk,fun _ hx=> .inl hx,rfl⟩,.inr ⟨HS.out,⟨w5.heap.size,nm,a2,c2,vs,(dt r.p nm).1,(dt r.p nm).1.length⟩,?_,B2.out,rfl,rfl,rfl,C5.out.2⟩⟩;rw [eN]
     first|rfl|simp
    .have t3:((eo r.p nm).2 !=0)=true:=(by simpa using J);have C7:=Hd J;clear J;go_wp2_with fail;go_ret3;refine ⟨r3,B1.trans q.out.2.symm,E.trans M,.inl ⟨by rw [q.out.1];exact C7.out,?_⟩⟩;rw [q.out.1]
     first|rfl|simp
  .have HE:=Hd (ub S);have t1:((cQ r.p nm).2 !=0)=true:=(by simpa using S);have A2:=Hd S;clear S;go_step;go_wp2_with fail;go_ret3;refine ⟨F,A9.out.trans HE.out.2.symm,H,.inl ⟨by rw [HE.out.1];exact A2.out,?_⟩⟩;rw [HE.out.1]
   first|rfl|simp
theorem Own.setN {w:As} {B:Nat} {e:TypeId} {size:Nat} {g n c:Nat} {vs:AT} (h:Own w B e size (some ⟨g,0,none⟩) n c vs) (i:Nat) (M:i<n*size) (v:Value):Own (w.setCell ⟨g,i,none⟩ v) B e size (some ⟨g,0,none⟩) n c (vs.set i v):=by
 refine ⟨by rw [XZ];exact h.1,?_⟩;rcases h.2 with ⟨A,N⟩|⟨O,cap,E,A,F,G,H,I,J,L⟩
 .simp at A
 .simp only [Vi,Vu,Xy] at A;obtain ⟨⟨rfl,-⟩,-,rfl⟩:=A;refine .inr ⟨g,c,E.setIfInBounds i v,rfl,F,(show Blk w g E e from G).set i v,H,I,by simpa using J,?_⟩;rw [Array.toList_setIfInBounds,ZU,L]
theorem Own.headR {w:As} {B:Nat} {e:TypeId} {size:Nat} {a:Lt} {n c:Nat} {vs:AT} (h:Own w B e size a n c vs) (G:0<n):∃g,a=some ⟨g,0,none⟩:=by
 rcases h.2 with ⟨A,H⟩|⟨E,cap,F,A,_⟩
 .omega
 .simp only [Vi] at A;exact ⟨E,A.1⟩
structure dg where
 nm:bB
 a:Lt
 c:Nat
 b:Le
 sure:Nat
def dg.p (f:dg):dJ:=⟨f.nm,f.b,f.sure⟩
def aW (f:dg):AT:=[.string f.nm,.slice f.a f.b.length f.c,.int .i64 (f.sure:Int)]
structure cz where
 d:Nat
 la:Lt
 lc:Nat
 fs:List dg
 down:Bool
 armed:Bool
 left:Int
 pa:Lt
 pc:Nat
 plan:ef
def cz.p (r:cz):aN:=⟨r.fs.map (·.p),r.down,r.armed,r.left,r.plan⟩
def cF (r:cz):AS:= #[.slice r.la r.fs.length r.lc,.bool r.down,.bool r.armed,.int .i64 r.left,.slice r.pa r.plan.length r.pc]
structure cS (w:As) (B:Nat) (r:cz):Prop where
 ged:B<=r.d
 blk:Blk w r.d (cF r) 49
 row:Own w B 118 3 r.la r.fs.length r.lc (r.fs.flatMap aW)
 files:∀f∈r.fs,Own w B 5 1 f.a f.b.length f.c (f.b.map bv)
 plan:Own w B 130 2 r.pa r.plan.length r.pc (r.plan.flatMap dH)
 ok:dY r.p
def eJ (r:cz) (x:Nat):Prop:=x=r.d\/(∃ad,r.la=some ad/\x=ad.block)\/(∃f∈r.fs,∃ad,f.a=some ad/\x=ad.block)\/∃ad,r.pa=some ad/\x=ad.block
section
variable {w w':As} {B:Nat} {f:dg} {r r' r'':cz}
theorem cS.keep (h:cS w B r) (A:∀x,eJ r x->w'.heap[x]? =w.heap[x]?):cS w' B r:=
 ⟨h.ged,(A _ (.inl rfl)).trans h.blk,h.row.keepAt fun x hx=>A _ (.inr (.inl ⟨x,hx,rfl⟩)),fun f E=>(h.files f E).keepAt fun x hx=>A _ (.inr (.inr (.inl ⟨f,E,x,hx,rfl⟩))),h.plan.keepAt fun x hx=>A _ (.inr (.inr (.inr ⟨x,hx,rfl⟩))),h.ok⟩
theorem cS.lt (h:cS w B r) {x:Nat} (hx:eJ r x):B<=x/\x<w.heap.size:=by
 rcases hx with rfl|⟨E,A,rfl⟩|⟨f,F,E,A,rfl⟩|⟨E,A,rfl⟩
 .exact ⟨h.ged,h.blk.lt⟩
 .exact ⟨(h.row.block_lt A).1,(h.row.block_lt A).2.1⟩
 .exact ⟨((h.files f F).block_lt A).1,((h.files f F).block_lt A).2.1⟩
 .exact ⟨(h.plan.block_lt A).1,(h.plan.block_lt A).2.1⟩
theorem cS.old (h:cS w B r) (A:Below w.heap.size w w'):cS w' B r:=h.keep fun x hx=>A.block x (h.lt hx).2
theorem cS.lower {B':Nat} (h:cS w B r) (A:B'<=B):cS w B' r:=⟨Vd A h.ged,h.blk,h.row.lower A,fun f E=>(h.files f E).lower A,h.plan.lower A,h.ok⟩
structure cj (B:Nat) (w:As) (r:cz) (w':As) (r':cz):Prop where
 turn:aJ (eJ r) w w'
 at':cS w' B r'
 foot':∀x,eJ r' x->eJ r x\/w.heap.size<=x
 d:r'.d=r.d
theorem cj.refl (h:cS w B r):cj B w r w r:=⟨aJ.refl _ _,h,fun _ hx=> .inl hx,rfl⟩
theorem cj.old (h:cS w B r) (A:Below w.heap.size w w'):cj B w r w' r:=⟨aJ.of_below A,h.old A,fun _ hx=> .inl hx,rfl⟩
theorem cj.trans {E:As} (h:cj B w r w' r') (h':cj B w' r' E r''):cj B w r E r'':=
 ⟨h.turn.trans h'.turn h.foot',h'.at',fun x hx=>by
  rcases h'.foot' x hx with A|A
  .exact h.foot' x A
  .exact .inr (Vd h.turn.size A),h'.d.trans h.d⟩
theorem cj.below (h:cj B w r w' r') (A:cS w B r) (E:B<=w.heap.size):Below B w w':=h.turn.below (fun _ hx=>(A.lt hx).1) E
theorem cS.head (h:cS w B r) (A:cz) (O:A.d=r.d) (I:A.la=r.la) (J:A.lc=r.lc) (L:A.fs=r.fs) (M:A.pa=r.pa) (N:A.pc=r.pc) (H:A.plan=r.plan) (P:0<=A.left/\A.left<=9223372036854775807)
  (U:Blk w' r.d (cF A) 49) (F:∀x,x≠r.d->w'.heap[x]? =w.heap[x]?):cS w' B A:=by
 obtain ⟨d2,j,l,m,Z,Y,e,o,q,g⟩:=A;dsimp only at O I J L M N H P;subst O I J L M N H;have G:∀{b:Nat} {cs:AS} {t:TypeId},Blk w b cs t->t≠49->b≠r.d:=fun T V=>Blk.ne T h.blk V;refine ⟨h.ged,U,h.row.keepAt fun x hx=>F _ ?_,fun f S=>(h.files f S).keepAt fun x hx=>F _ ?_,h.plan.keepAt fun x hx=>F _ ?_,⟨h.ok.names,h.ok.named,h.ok.sure,h.ok.size,h.ok.count,P⟩⟩
 .obtain ⟨_,_,_,E⟩:=h.row.block_lt hx;exact G E dcA
 .obtain ⟨_,_,_,E⟩:=(h.files f S).block_lt hx;exact G E dcA
 .obtain ⟨_,_,_,E⟩:=h.plan.block_lt hx;exact G E dcA
theorem cS.elem (h:cS w B r) (k:Nat) (J:k<r.fs.length):∃g,r.la=some ⟨g,0,none⟩/\w.cell? ⟨g,k*3,none⟩=some (.string r.fs[k].nm)/\w.cell? ⟨g,k*3+1,none⟩=some (.slice r.fs[k].a r.fs[k].b.length r.fs[k].c)/\w.cell? ⟨g,k*3+2,none⟩=some (.int .i64 (r.fs[k].sure:Int)):=by
 obtain ⟨g,E⟩:=h.row.headR oA;obtain ⟨b,o,F,_,A⟩:=av.elem (g:=aW) (sz:=3) (fun _=>rfl) h.row.row oA k J;rw [E] at F;cases F;have G:=A 0 (show 0<3 by omega);have H:=A 1 (show 1<3 by omega);have I:=A 2 (show 2<3 by omega);simp only [VN,Yf] at G H I;exact ⟨g,E,G,H,I⟩
theorem zK {fs:List dg} {k:Nat} (A:k<fs.length) (f:dg):(fs.set k f).flatMap aW=(((fs.flatMap aW).set (k*3) (.string f.nm)).set (k*3+1) (.slice f.a f.b.length f.c)).set (k*3+2) (.int .i64 (f.sure:Int)):=by
 induction fs generalizing k with
 |nil=>simp at A
 |cons x l ih=>
  cases k with
  |zero=>simp [aW]
  |succ k=>
   have E:k<l.length:=(by simpa using A);have e:(k+1)*3=k*3+3:=oA;rw [List.set_cons_succ,Vn,Vn,ih E,e];simp [aW]
theorem tD {fs:List dg} {k:Nat} (A:k<fs.length):(fs.flatMap aW)[k*3]? =some (.string fs[k].nm)/\(fs.flatMap aW)[k*3+1]? =some (.slice fs[k].a fs[k].b.length fs[k].c)/\(fs.flatMap aW)[k*3+2]? =some (.int .i64 (fs[k].sure:Int)):=by
 induction fs generalizing k with
 |nil=>simp at A
 |cons x l ih=>
  cases k with
  |zero=>simp [aW]
  |succ k=>
   have E:k<l.length:=(by simpa using A);have e:(k+1)*3=k*3+3:=oA;obtain ⟨a,b,c⟩:=ih E;rw [Vn,e];simp only [aW,Xf,Wl,List.getElem?_cons_succ,List.getElem_cons_succ];exact ⟨a,b,c⟩
end
theorem IU {fs:List dg} {k:Nat} (E:k<fs.length) (F:(fs.map (·.nm)).Nodup) (G:dJ->dJ) (f:dg) (H:f.p=G fs[k].p):(fs.set k f).map (·.p)=BV (fs.map (·.p)) fs[k].nm G:=by
 refine ZC (by simp [BV]) fun i A L=> ?_;simp only [lmA,XZ] at A;simp only [BV,WL,List.getElem_set];by_cases e:k=i
 .subst e;rw [Vz rfl,Vz (show fs[k].p.name=fs[k].nm from rfl),H]
 .rw [VV e,VV];intro I;have J:(fs.map (·.nm))[i]'(by simpa using A)=(fs.map (·.nm))[k]'(by simpa using E):=(by simpa using (show fs[i].nm=fs[k].nm from I));exact e ((List.getElem_inj F).1 J).symm
def gV (fs:List dg) (nm:bB):Int:=match fs.findIdx? (fun f=>f.nm=nm) with
 |some k=>(k:Int)
 |none=> -1
theorem AH {fs:List dg} {nm:bB} {k:Nat} (E:k<fs.length) (F:fs[k].nm=nm) (G:∀j (A:j<fs.length),j<k->fs[j].nm≠nm):gV fs nm=(k:Int):=by
 unfold gV;have:fs.findIdx? (fun f=>decide (f.nm=nm))=some k:=by
  rw [YM];exact ⟨E,by simpa using F,fun j A=>by simpa using G j oA A⟩
 rw [this]
theorem AI {fs:List dg} {nm:bB} (h:∀f∈fs,f.nm≠nm):gV fs nm= -1:=by
 unfold gV;have:fs.findIdx? (fun f=>decide (f.nm=nm))=none:=by
  rw [List.findIdx?_eq_none_iff];intro f A;simpa using h f A
 rw [this]
theorem qu (fs:List dg) (nm:bB):(∃k,∃A:k<fs.length,fs[k].nm=nm/\gV fs nm=(k:Int)/\(fs.map (·.p)).find? (fun f=>f.name=nm)=some fs[k].p)\/((∀f∈fs,f.nm≠nm)/\gV fs nm= -1/\(fs.map (·.p)).find? (fun f=>f.name=nm)=none):=by
 cases h:fs.findIdx? (fun f=>decide (f.nm=nm)) with
 |some k=>
  obtain ⟨A,F,H⟩:=YM.1 h;refine .inl ⟨k,A,by simpa using F,by unfold gV;rw [h],?_⟩;rw [Yy];refine ⟨VK (Wu F),k,by simpa using A,skA,fun j I=> ?_⟩;have:=H j I;simpa [dg.p] using this
 |none=>
  have G:∀f∈fs,f.nm≠nm:=fun f E=>(by have:=List.findIdx?_eq_none_iff.1 h f E;simpa using this);refine .inr ⟨G,by unfold gV;rw [h],?_⟩;rw [XE];intro f E;obtain ⟨g,J,rfl⟩:=VH.1 E;exact fun e=>G g J (Wu e)
theorem qO {fs:List dg} {k:Nat} (A:k<fs.length) (f:dg) (E:f.nm=fs[k].nm):(fs.set k f).flatMap aW=((fs.flatMap aW).set (k*3+1) (.slice f.a f.b.length f.c)).set (k*3+2) (.int .i64 (f.sure:Int)):=by
 rw [zK A f,E];congr 2;obtain ⟨h,_,_⟩:=tD A;obtain ⟨F,G⟩:=Vm.1 h;rw [<-G];exact Yp F
theorem MO {fs:List dg} {k:Nat} (A:k<fs.length) (f:dg) (E:f.nm=fs[k].nm) (F:f.sure=fs[k].sure):(fs.set k f).flatMap aW=(fs.flatMap aW).set (k*3+1) (.slice f.a f.b.length f.c):=by
 rw [qO A f E,F,List.set_comm _ _ oA];congr 1;obtain ⟨_,_,h⟩:=tD A;obtain ⟨G,H⟩:=Vm.1 h;rw [<-H];exact Yp G
theorem DS {fs:List dg} {k:Nat} (A:k<fs.length) (f:dg) (E:f.nm=fs[k].nm) (F:f.a=fs[k].a) (G:f.b=fs[k].b) (H:f.c=fs[k].c):(fs.set k f).flatMap aW=(fs.flatMap aW).set (k*3+2) (.int .i64 (f.sure:Int)):=by
 rw [qO A f E,F,G,H];congr 1;obtain ⟨_,h,_⟩:=tD A;obtain ⟨I,J⟩:=Vm.1 h;rw [<-J];exact Yp I
section
variable {w w':As} {B:Nat} {r:cz}
theorem cS.nd (h:cS w B r):(r.fs.map (·.nm)).Nodup:=by
 have:=h.ok.names;rw [show r.p.fs=r.fs.map (·.p) from rfl,We] at this;exact this
theorem cS.same {f g:dg} (h:cS w B r) (E:f∈r.fs) (F:g∈r.fs) (H:f.nm=g.nm):f=g:=by
 have A:=h.nd;generalize r.fs=l at E F A
 induction l with
 |nil=>cases E
 |cons x l ih=>
  simp only [WG,XR] at A;rcases Vk.1 E with rfl|G
  .rcases Vk.1 F with rfl|hg'
   .rfl
   .exact (A.1 (H▸WY (f:=fun x:dg=>x.nm) hg')).elim
  .rcases Vk.1 F with rfl|hg'
   .exact (A.1 (H▸WY (f:=fun x:dg=>x.nm) G)).elim
   .exact ih G hg' A.2
theorem cS.file (h:cS w B r) {k:Nat} (T:k<r.fs.length) (f:dg) (U:Own w' B 5 1 f.a f.b.length f.c (f.b.map bv)) (N:Own w' B 118 3 r.la r.fs.length r.lc ((r.fs.set k f).flatMap aW)) (L:aJ (fun x=>∃A,r.la=some A/\x=A.block) w w')
  (O:∀A,f.a=some A->(∃I,r.fs[k].a=some I/\A.block=I.block)\/w.heap.size<=A.block) (P:dY (cz.p {r with fs:=r.fs.set k f})):cj B w r w' {r with fs:=r.fs.set k f}:=by
 have hx:∀x,(∃A,r.la=some A/\x=A.block)->∃G,Blk w x G 118:=fun x ⟨A,V,Y⟩=>by
  obtain ⟨_,_,G,F⟩:=h.row.block_lt V;exact ⟨G,Y▸F⟩
 have J:∀{b:Nat} {cs:AS} {t:TypeId},Blk w b cs t->t≠118->w'.heap[b]? =w.heap[b]? :=fun M S=>L.block _ M.lt fun e=>by
  obtain ⟨G,F⟩:=hx _ e;exact Blk.ne M F S rfl
 refine ⟨L.mono fun x hx=> .inr (.inl hx),⟨h.ged,(J h.blk dcA).trans ?_,?_,?_,?_,P⟩,?_,rfl⟩
 .have:=h.blk;unfold Blk cF at*;rw [this];simp
 .simpa using N
 .intro g E;rcases List.mem_or_eq_of_mem_set E with E|rfl
  .refine (h.files g E).keepAt fun x hx=> ?_;obtain ⟨_,_,G,F⟩:=(h.files g E).block_lt hx;exact J F dcA
  .exact U
 .refine h.plan.keepAt fun x hx=> ?_;obtain ⟨_,_,G,F⟩:=h.plan.block_lt hx;exact J F dcA
 .intro x hx;rcases hx with rfl|⟨A,H,rfl⟩|⟨g,E,A,H,rfl⟩|⟨A,H,rfl⟩
  .exact .inl (.inl rfl)
  .exact .inl (.inr (.inl ⟨A,H,rfl⟩))
  .rcases List.mem_or_eq_of_mem_set E with E|rfl
   .exact .inl (.inr (.inr (.inl ⟨g,E,A,H,rfl⟩)))
   .rcases O A H with ⟨I,Z,d⟩|e
    .exact .inl (.inr (.inr (.inl ⟨r.fs[k],VQ T,I,Z,d⟩)))
    .exact .inr e
  .exact .inl (.inr (.inr (.inr ⟨A,H,rfl⟩)))
theorem cS.both (h:cS w B r) (O:B<=w.heap.size) {k:Nat} (H:k<r.fs.length) {g:Nat} (E:r.la=some ⟨g,0,none⟩) {w3:As} (I:Below w.heap.size w w3) (f:dg) (M:f.nm=r.fs[k].nm) (J:Own w3 w.heap.size 5 1 f.a f.b.length f.c (f.b.map bv)) (N:dY (cz.p {r with fs:=r.fs.set k f})):
  cj B w r ((w3.setCell ⟨g,k*3+1,none⟩ (.slice f.a f.b.length f.c)).setCell ⟨g,k*3+2,none⟩ (.int .i64 (f.sure:Int))) {r with fs:=r.fs.set k f}/\aJ (fun x=>∃A,r.la=some A/\x=A.block) w ((w3.setCell ⟨g,k*3+1,none⟩ (.slice f.a f.b.length f.c)).setCell ⟨g,k*3+2,none⟩ (.int .i64 (f.sure:Int))):=by
 have F:=h.row.old I;rw [E] at F;obtain ⟨_,_,S,G⟩:=F.block_lt rfl;have L:aJ (fun x=>∃A,r.la=some A/\x=A.block) w ((w3.setCell ⟨g,k*3+1,none⟩ (.slice f.a f.b.length f.c)).setCell ⟨g,k*3+2,none⟩ (.int .i64 (f.sure:Int))):=
  aJ.setCell (aJ.setCell (aJ.of_below I) (x:=⟨g,k*3+1,none⟩) (.inl ⟨_,E,rfl⟩) _) (x:=⟨g,k*3+2,none⟩) (.inl ⟨_,E,rfl⟩) _
 refine ⟨h.file H f ?_ ?_ L (fun A P=> .inr (J.block_lt P).1) N,L⟩
 .exact ((J.lower O).setCell_apart G dcA _ _).setCell_apart (G.set _ _) dcA _ _
 .rw [E,qO H f M];exact (F.setN (k*3+1) oA _).setN (k*3+2) oA _
theorem cS.onlyB (h:cS w B r) (N:B<=w.heap.size) {k:Nat} (G:k<r.fs.length) {g:Nat} (E:r.la=some ⟨g,0,none⟩) {w3:As} (H:Below w.heap.size w w3) (f:dg) (L:f.nm=r.fs[k].nm) (O:f.sure=r.fs[k].sure) (I:Own w3 w.heap.size 5 1 f.a f.b.length f.c (f.b.map bv)) (M:dY (cz.p {r with fs:=r.fs.set k f})):
  cj B w r (w3.setCell ⟨g,k*3+1,none⟩ (.slice f.a f.b.length f.c)) {r with fs:=r.fs.set k f}:=by
 have A:=h.row.old H;rw [E] at A;obtain ⟨_,_,T,J⟩:=A.block_lt rfl;have P:aJ (fun x=>∃F,r.la=some F/\x=F.block) w (w3.setCell ⟨g,k*3+1,none⟩ (.slice f.a f.b.length f.c)):=
  aJ.setCell (aJ.of_below H) (x:=⟨g,k*3+1,none⟩) (.inl ⟨_,E,rfl⟩) _
 refine h.file G f ?_ ?_ P (fun F S=> .inr (I.block_lt S).1) M
 .exact (I.lower N).setCell_apart J dcA _ _
 .rw [E,MO G f L O];exact A.setN (k*3+1) oA _
theorem cS.onlySure (h:cS w B r) {k:Nat} (F:k<r.fs.length) {g:Nat} (G:r.la=some ⟨g,0,none⟩) (n:Nat) (I:dY (cz.p {r with fs:=r.fs.set k {r.fs[k] with sure:=n}})):
  cj B w r (w.setCell ⟨g,k*3+2,none⟩ (.int .i64 (n:Int))) {r with fs:=r.fs.set k {r.fs[k] with sure:=n}}:=by
 have E:=h.row;rw [G] at E;obtain ⟨_,_,M,H⟩:=E.block_lt rfl;have J:aJ (fun x=>∃A,r.la=some A/\x=A.block) w (w.setCell ⟨g,k*3+2,none⟩ (.int .i64 (n:Int))):=
  aJ.setCell (aJ.refl _ _) (x:=⟨g,k*3+2,none⟩) (.inl ⟨_,G,rfl⟩) _
 refine h.file F {r.fs[k] with sure:=n} ?_ ?_ J (fun A L=> .inl ⟨A,L,rfl⟩) I
 .exact (h.files _ (VQ F)).setCell_apart H dcA _ _
 .rw [G,DS F {r.fs[k] with sure:=n} rfl rfl rfl rfl];exact E.setN (k*3+2) oA _
theorem cz.p_set {r:cz} {k:Nat} (A:k<r.fs.length) (E:(r.fs.map (·.nm)).Nodup) (G:dJ->dJ) (f:dg) (F:f.p=G r.fs[k].p):cz.p {r with fs:=r.fs.set k f}=kF r.p r.fs[k].nm G:=by
 unfold cz.p kF;simp only [aN.mk.injEq,ZA];exact IU A E G f F
end
theorem rY {P:Program} {t e:TypeId} (E:P.underlying t=some (.slice e)) (A:(P.info? e).map (·.size)=some 1) (a:Lt) (n c k:Nat) (I:k<=c) (W:As):
  (Instr.sliceAt t (.slice a n c) none (some (.int .i64 (k:Int))) none).run P W= .ok (.slice a k c) W:=by
 have F:P.elem t=e:=(by simp [Program.elem,E]);rw [ZG W t _ _ _ _ (by rw [F];exact E)];rw [run_slice_h W t a n c (by rw [F];exact E) .i64 (k:Int) oA oA,F];have H:(sizeOf e).run P W= .ok 1 W:=by
  cases G:P.info? e with
  |none=>simp [G] at A
  |some i=>simp [G] at A;simp [sizeOf,typeInfo,G,A]
 rw [H];cases a<;>simp [sliced,Addr.add]
theorem vu (w:As) (B:Nat) (r:cz) (nm:bB) (h:cS w B r):Calls prog 64 #[.pointer (some ⟨r.d,0,none⟩),.string nm] w fun e w'=>e= .returned (.int .i64 (gV r.fs nm))/\w'=w:=by
 have L:=h.blk.rule;unfold cF at L;have S:r.fs.length<=64:=(by have:=h.ok.count;simpa [cz.p] using this);go_enter func64,ntmps64;go_wp2_with fail;go_loopg [5] r.fs.length (fun f i wr=>wr=w/\∃k:Nat,k+f=r.fs.length/\i= .int .i64 (k:Int)/\Hid (∀j (A:j<r.fs.length),j<k->r.fs[j].nm≠nm))
 case atStart=>exact ⟨rfl,0,oA,rfl,Hd (fun j A h=>by omega)⟩
 case round=>
  obtain ⟨rfl,k,T,rfl,F⟩:=hrel;by_cases J:k<r.fs.length
  .obtain ⟨g,H,U,N,c2⟩:=h.elem k J;rw [H] at L;have V:=Hd H;clear H N c2;by_cases E:r.fs[k].nm=nm
   .have t0:(r.fs[k].nm.toList==nm.toList)=true:=(by rw [ni];simp [E]);have I:=Hd (AH J E (fun j A G=>F.out j A G));have M:=Hd E;clear E;generalize r.fs[k].nm=nk at*;go_wp2_with fail;go_ret;exact ⟨by rw [I.out];first|rfl|simp,rfl⟩
   .have t0:(r.fs[k].nm.toList==nm.toList)=false:=(by rw [ni];simp [E]);have M:=Hd E;clear E;have O:Hid (∀j (A:j<r.fs.length),j<k+1->r.fs[j].nm≠nm):=Hd fun j A G=>by
     rcases Nat.lt_or_eq_of_le (Nat.le_of_lt_succ G) with q|q
     .exact F.out j A q
     .subst q;exact M.out
    generalize r.fs[k].nm=nk at*;go_wp2_with fail;go_roundg (gk-1)
    case measure=>omega
    case rel=>exact ⟨rfl,k+1,oA,gnA,O⟩
  .have hke:k=r.fs.length:=oA;have I:=Hd (AI (fs:=r.fs) (nm:=nm) (fun f P=>by
    obtain ⟨j,A,rfl⟩:=XC P;exact F.out j A oA))
   go_wp2_with fail;go_ret;exact ⟨by rw [I.out];first|rfl|simp,rfl⟩
def atI (p:cz) (nm:bB):Int:=if p.down then-1 else gV p.fs nm
def atE (p:cz) (nm:bB):Int:=if p.down then 5 else if gV p.fs nm<0 then 4 else 0
theorem tU (w:As) (B:Nat) (r:cz) (nm:bB) (h:cS w B r):Calls prog 66 #[.pointer (some ⟨r.d,0,none⟩),.string nm] w fun e w'=>e= .returned (.tuple #[.int .i64 (atI r nm),.int .i64 (atE r nm)])/\w'=w:=by
 have H:=h.blk.rule;unfold cF at H;have J:=vu w B r nm h;cases A:r.down with
 |true=>
  rw [A] at H;have F:=Hd (show atI r nm= -1 by unfold atI;rw [Vz A]);have G:=Hd (show atE r nm=5 by unfold atE;rw [Vz A]);have L:=Hd A;clear A;go_enter func66,ntmps66;go_wp2_with fail;go_ret2;exact ⟨by rw [F.out,G.out];first|rfl|simp,rfl⟩
 |false=>
  rw [A] at H;have F:=Hd (show atI r nm=gV r.fs nm by unfold atI;rw [VV (by simp [A])]);have G:=Hd (show atE r nm=if gV r.fs nm<0 then 4 else 0 by unfold atE;rw [VV (by simp [A])]);have L:=Hd A;clear A;by_cases E:gV r.fs nm<0
  .have t0:decide (gV r.fs nm<0)=true:=(by simp [E]);have I:=Hd E;clear E;go_enter func66,ntmps66;go_wp2_with fail;refine J.mono ?_;rintro e w' ⟨rfl,rfl⟩;go_wp2_with fail;go_ret2;exact ⟨by rw [F.out,G.out,Vz I.out];first|rfl|simp,rfl⟩
  .have t0:decide (gV r.fs nm<0)=false:=(by simpa using E);have I:=Hd E;clear E;go_enter func66,ntmps66;go_wp2_with fail;refine J.mono ?_;rintro e w' ⟨rfl,rfl⟩;go_wp2_with fail;go_ret2;exact ⟨by rw [F.out,G.out,VV (by have:=I.out;omega)];first|rfl|simp,rfl⟩
theorem pD (r:cz) (nm:bB):(r.down=true/\atI r nm= -1/\atE r nm=5)\/(r.down=false/\(∀f∈r.fs,f.nm≠nm)/\atI r nm= -1/\atE r nm=4/\fF r.p nm=none)\/
  ∃k,∃H:k<r.fs.length,r.down=false/\r.fs[k].nm=nm/\atI r nm=(k:Int)/\atE r nm=0/\fF r.p nm=some r.fs[k].p:=by
 cases A:r.down with
 |true=>exact .inl ⟨rfl,by simp [atI,A],by simp [atE,A]⟩
 |false=>
  rcases qu r.fs nm with ⟨k,H,F,E,G⟩|⟨F,E,G⟩
  .exact .inr (.inr ⟨k,H,rfl,F,by simp [atI,A,E],by simp [atE,A,E],G⟩)
  .exact .inr (.inl ⟨rfl,F,by simp [atI,A,E],by simp [atE,A,E],G⟩)
theorem sg (s:ByteArray) (w:As):Calls prog 63 #[.string s] w fun e w'=>e= .returned (.bool (dm s))/\w'=w:=by
 have E:dm s=(decide (1<=s.size)&&decide (s.size<=40)):=by
  unfold dm;congr 1;rw [YY];omega
 rw [E];clear E;by_cases A:1<=s.size
 .by_cases h2:s.size<=40
  .go_enter func63,ntmps63;go_wp2_with fail;go_ret;exact ⟨by simp [A,h2];omega,rfl⟩
  .go_enter func63,ntmps63;go_wp2_with fail;go_ret;exact ⟨by simp [A,h2];omega,rfl⟩
 .go_enter func63,ntmps63;go_wp2_with fail;go_ret;exact ⟨by simp [A],rfl⟩
theorem kj (a:Lt) (len cap:Nat) (l:Le) (w:As) (H:aj w a l) (A:l.length=len) (M:len<=140737488351232):
  Calls prog 67 #[.slice a len cap] w fun e w'=>∃a' c',e= .returned (.slice a' len c')/\Own w' w.heap.size 5 1 a' len c' (l.map bv)/\Below w.heap.size w w':=by
 have I:=Hd A;clear A;have E:Own w w.heap.size 5 1 none 0 0 []:=Own.nil _ _ _ _;go_enter func67,ntmps67;go_wp2_with (at_builtin;refine al rfl _ _ 22 rfl oG rfl E rfl H (by rw [lmA,I.out,Vr]) (cV _) mxA oA (VU _) ?_);intro J L w1 F G;go_wp2_with fail;go_ret;refine ⟨J,L,?_,?_,E.grown (VW _ _) (VU _) G (VU _)⟩
 .first|rfl|simp
 .simpa using F
theorem xC (a:Lt) (len cap:Nat) (l:ef) (w:As) (H:av w a (l.flatMap dH)) (A:l.length=len) (M:len*24<=140737488355328):
  Calls prog 103 #[.slice a len cap] w fun e w'=>∃a' c',e= .returned (.slice a' len c')/\Own w' w.heap.size 130 2 a' len c' (l.flatMap dH)/\Below w.heap.size w w':=by
 have I:=Hd A;clear A;have E:Own w w.heap.size 130 2 none 0 0 []:=Own.nil _ _ _ _;go_enter func103,ntmps103;go_wp2_with (at_builtin;refine al rfl _ _ 47 rfl Ml rfl E rfl H (by rw [ld,I.out]) (so _) mxA oA (VU _) ?_);intro J L w1 F G;go_wp2_with fail;go_ret;refine ⟨J,L,?_,?_,E.grown (VW _ _) (VU _) G (VU _)⟩
 .first|rfl|simp
 .simpa using F
theorem DE (plan:ef) (f:dJ) (h:f.sure<=f.b.length):min (max (rL plan f.name) 0) ((f.b.length:Int)-f.sure)=(iS plan f:Int):=by
 unfold iS;by_cases A:plan.any (fun x=>x.1=f.name)=true
 .rw [Vz A];omega
 .rw [VV A];have:rL plan f.name=0:=by
   unfold rL;have:plan.find? (fun x=>x.1=f.name)=none:=by
    rw [XE];intro x hx e;exact A (Vv.2 ⟨x,hx,e⟩)
   rw [this];rfl
  rw [this];omega
theorem AU (plan:ef) (nm:bB) (m:Nat) (A:m<plan.length):rL (plan.drop m) nm=if plan[m].1=nm then plan[m].2 else rL (plan.drop (m+1)) nm:=by
 unfold rL;rw [XT A,XK];by_cases e:plan[m].1=nm
 .rw [VK e,Vz e];rfl
 .rw [VO e,VV e]
theorem zo {α:Type} (g:α->α):∀(l:List α) (k:Nat) (A:k<l.length),((l.take k).map g++l.drop k).set k (g l[k])=(l.take (k+1)).map g++l.drop (k+1)
 |x::l,0,_=>by simp
 |x::l,k+1,A=>by
  have:=zo g l k (by simpa using A);simpa using this
theorem zq {α:Type} (g:α->α):∀(l:List α) (k:Nat) (A:k<l.length),((l.take k).map g++l.drop k)[k]? =some l[k]
 |x::l,0,_=>by simp
 |x::l,k+1,A=>by
  have:=zq g l k (by simpa using A);simpa using this
structure CrR (w:As) (B:Nat) (r:cz) (plan:ef) (k:Nat) (r':cz) (wr:As):Prop where
 step:cj B w r wr r'
 len:Hid (r'.fs.length=r.fs.length)
 p:Hid (r'.p.fs=(r.p.fs.take k).map (iP plan)++r.p.fs.drop k)
 la:Hid (r'.la=r.la/\r'.lc=r.lc)
 tl:aJ (fun x=>∃ad,r.la=some ad/\x=ad.block) w wr
 rest:Hid (r'.down=r.down/\r'.armed=r.armed/\r'.left=r.left/\r'.plan=r.plan/\r'.pa=r.pa/\r'.pc=r.pc)
theorem CrR.next {w wr w':As} {B:Nat} {r r':cz} {plan:ef} {k:Nat} (h:CrR w B r plan k r' wr) (H:k<r'.fs.length) (f:dg) (I:f.p=iP plan r'.fs[k].p) (J:aJ (fun x=>∃E,r'.la=some E/\x=E.block) wr w') (L:cj B wr r' w' {r' with fs:=r'.fs.set k f}):CrR w B r plan (k+1) {r' with fs:=r'.fs.set k f} w':=by
 refine ⟨h.step.trans L,Hd (by simp [h.len.out]),Hd ?_,Hd h.la.out,h.tl.trans J (fun x hx=> .inl (by rw [h.la.out.1] at hx;exact hx)),Hd h.rest.out⟩;have A:k<r.p.fs.length:=(by have:=h.len.out;simp [cz.p];omega);have e:=h.p.out;have F:r'.p.fs[k]? =some r.p.fs[k]:=(by rw [e];exact zq _ _ _ A);have G:r'.fs[k].p=r.p.fs[k]:=by
  have M:r'.p.fs[k]? =some r'.fs[k].p:=(by simp [cz.p,H]);rw [M] at F;exact Ww F
 show (r'.fs.set k f).map (·.p)=_;rw [List.map_set,I,G,show r'.fs.map (·.p)=r'.p.fs from rfl,e];exact zo _ _ _ A
theorem cj.drewN {w wr:As} {B:Nat} {r r':cz} (h:cj B w r wr r') (n:Nat):cj B w r (wr.drewN n) r':=⟨h.turn.drewN n,h.at'.keep fun _ _=>rfl,h.foot',h.d⟩
theorem CrR.drewN {w wr:As} {B:Nat} {r r':cz} {plan:ef} {k:Nat} (h:CrR w B r plan k r' wr) (n:Nat):CrR w B r plan k r' (wr.drewN n):=⟨h.step.drewN n,h.len,h.p,h.la,h.tl.drewN n,h.rest⟩
theorem GD {p:aN} (h:dY p) (plan:ef) (nm:bB):dY (kF p nm (iP plan)):=
 h.upd nm (iP plan) (fun f _=>rfl) (fun f A _=>by rw [lG plan f (h.sure f A)];exact VU _) (fun f A _=>by rw [lG plan f (h.sure f A)];exact Vd (mY plan f (h.sure f A)) (h.size f A))
theorem si (w:As) (B:Nat) (r:cz) (pa:Lt) (J pc:Nat) (plan:ef) (h:cS w B r) (hB:B<=w.heap.size) (hp:av w pa (plan.flatMap dH)) (A5:plan.length=J) (C0:J<=maxLen) (C1:plan≠ []->∀V,pa=some V->∀U,r.la=some U->V.block≠U.block):
  Calls prog 40 #[.pointer (some ⟨r.d,0,none⟩),.slice pa J pc] w fun e w'=>∃r',e= .returned (.int .i64 (dz r.p plan).2)/\r'.p=(dz r.p plan).1/\cj B w r w' r':=by
 have HP:=Hd A5;clear A5;unfold maxLen at C0;have E:=h.blk.rule;unfold cF at E;cases N:r.down with
 |true=>
  rw [N] at E;go_enter func40,ntmps40;go_wp2_with fail;go_ret;refine ⟨r,?_,?_,cj.refl h⟩
  .simp [dz,cz.p,N]
  .simp [dz,cz.p,N]
 |false=>
  rw [N] at E;have D0:r.fs.length<=64:=(by have:=h.ok.count;simpa [cz.p] using this);go_enter func40,ntmps40;go_wp2_with fail;have A6:CrR w B r plan 0 r w:=⟨cj.refl h,Hd rfl,Hd skA,Hd ⟨rfl,rfl⟩,aJ.refl _ _,Hd ⟨rfl,rfl,rfl,rfl,rfl,rfl⟩⟩;have HD:=Hd N;clear E N;go_loopg [5] r.fs.length (fun f i wr=>∃(k:Nat) (r':cz),k+f=r.fs.length/\i= .int .i64 (k:Int)/\CrR w B r plan k r' wr)
  case atStart=>exact ⟨0,r,oA,rfl,A6⟩
  case round=>
   clear A6;obtain ⟨k,r',hk,rfl,G⟩:=hrel;have A:=G.step.at';have H:=G.step.d;have E:=A.blk.rule;unfold cF at E;rw [H] at E;have T:=Hd G.len.out;by_cases C2:k<r.fs.length
   .have I:k<r'.fs.length:=(by rw [T.out];exact C2);obtain ⟨g,hg,c0,c1,c2⟩:=A.elem k I;have O:=A.ok.sure r'.fs[k].p (VH.2 ⟨_,VQ I,rfl⟩);have C3:r'.fs[k].b.length<=1048576:=A.ok.size r'.fs[k].p (VH.2 ⟨_,VQ I,rfl⟩);rw [hg,T.out] at E;have HG:=Hd hg;have C4:=Hd O;have D3:=Hd (rfl:r'.fs[k]=r'.fs[k]);clear hg O;obtain ⟨f,Y⟩:=At (r'.fs[k]);rw [<-Y] at c0 c1 c2 C3;have Z:=Hd Y;have A1:=A.files f (Y▸VQ I);clear Y;have A7:av wr pa (plan.flatMap dH):=by
     by_cases A8:plan=[]
     .subst A8;exact av.nil _ _
     .exact av.turn hp G.tl fun V h1 ⟨U,h2,h3⟩=>C1 A8 V h1 U h2 h3
    obtain ⟨gm,rfl⟩:=At gk;go_wp2_with fail;go_loopg [6,7] J (fun fu v6 v7 wx=>(∃nn,wx=wr.drewN nn)/\∃m:Nat,m=fu/\m<=J/\v7= .int .i64 ((m:Int)-1)/\v6= .int .i64 (rL (plan.drop m) f.nm))
    case atStart=>exact ⟨⟨0,rfl⟩,J,rfl,VU _,rfl,by rw [<-HP.out,Yv];rfl⟩
    case round=>
     obtain ⟨⟨nn,rfl⟩,m,rfl,D4,rfl,rfl⟩:=hrel;by_cases C5:m=0
     .subst C5;have em:(((0:Nat):Int)-1)= -1:=rfl;rw [em,List.drop_zero];have O:f.sure<=f.b.length:=(by have:=C4.out;rw [<-Z.out] at this;exact this);have A9:=Hd (show min (max (rL plan f.nm) 0) ((f.b.length:Int)-(f.sure:Int))=(iS plan f.p:Int) from DE plan f.p O);have C6:f.sure+iS plan f.p<=f.b.length:=mY plan f.p O;go_upto_region 12 with fail;go_cut [6] (fun v wx=>v= .int .i64 (iS plan f.p:Int)/\∃L,wx=wr.drewN L)
      case first=>
       go_quiet (fail)
       all_goals go_wp2_with fail
       all_goals
        go_meet
        case rel=>exact ⟨by have:=A9.out;congr 1;omega,_,rfl⟩
      case rest=>
       obtain ⟨rfl,L,rfl⟩:=hcut;generalize BY:iS plan f.p=kn at*;have A4:=Hd BY;clear BY A9;have o:=G.drewN L;have q:(wr.drewN L).cell? ⟨g,k*3+1,none⟩=some (.slice f.a f.b.length f.c):=c1;have B0:(wr.drewN L).cell? ⟨g,k*3+2,none⟩=some (.int .i64 (f.sure:Int)):=c2;have B1:Own (wr.drewN L) B 5 1 f.a f.b.length f.c (f.b.map bv):=A1.keepAt fun _ _=>rfl;clear G A E c0 c1 c2 A1 A7;generalize wr.drewN L=w0 at*;have A:=o.step.at';have E:=A.blk.rule;unfold cF at E;rw [H,HG.out,T.out] at E;have b0:w0.cell? ⟨r.d,0,none⟩=some (.slice (some ⟨g,0,none⟩) r.fs.length r'.lc):=E 0;obtain ⟨F,B2⟩:=At (f.sure+kn);have e8:(f.sure:Int)+(kn:Int)=(F:Int):=oA;have D5:f.b.length<=f.c:=B1.le;have D1:F<=f.b.length:=oA;have B3:=Hd B2;clear B2;have C7:B<=w0.heap.size:=Vd hB o.step.turn.size;go_wp2_with fail;clear e8 C6;have hcut:=rY (P:=prog) (t:=22) underlying22 krA f.a f.b.length f.c F oA;have y:∀W,Old w0.drew W->∀b i (v:Value),w0.cell? ⟨b,i,none⟩=some v->W.cell? ⟨b,i,none⟩=some v:=fun W S b i v hv=>((S:Below w0.drew.heap.size _ W).cell (p:=⟨b,i,none⟩) (Vx w0 _ hv)).trans hv;have l0:∀W,Old w0.drew W->W.cell? ⟨r.d,0,none⟩=some (.slice (some ⟨g,0,none⟩) r.fs.length r'.lc):=fun W S=>y W S _ 0 _ b0;have l1:∀W,Old w0.drew W->W.cell? ⟨g,k*3+1,none⟩=some (.slice f.a f.b.length f.c):=fun W S=>y W S _ (k*3+1) _ q;clear y;refine ah true Old Old.refl Old.trans (.step 0 (.step 1 (.step 2 (.step 3 (.step 4 (.step 5 (.step 6 (.step 7 (.step 8 (.step 9 (.step 10 (.step 11 (.step 12 (.step 13 (.step 14 (.step 15 (.step 16 (.step 17 (.step 18 .done))))))))))))))))))) krA krA cdA ?_
       repeat refine txA ?_
       have C8:aj w0.drew f.a (f.b.take F):=by
        have:=(av.take F B1.row);rw [<-WB] at this;exact this
       refine am rfl rfl rfA (fun K hK=> ?_);go_wp2_with fail;refine (kj f.a F f.c (f.b.take F) _ C8 (by rw [ltA];omega) oA).mono ?_;rintro e w3 ⟨a3,c3,rfl,B6,B4⟩;go_wp2_with fail;refine hK _ _ B4 ?_;clear hK K l0 l1
       repeat refine txA ?_
       have M:Below w0.heap.size w0 w3:=aa (VW _ _).drew B4;have A0:(f.b.take F).length=F:=(by rw [ltA];omega);have l:=A.both C7 I HG.out (w3:=w3) M ⟨f.nm,a3,c3,f.b.take F,F⟩ (by rw [Z.out]) (by rw [A0];exact B6) (by
        rw [cz.p_set I A.nd (iP plan) _ (by rw [<-Z.out];simp only [dg.p,iP,B3.out];rw [<-A4.out];rfl)];exact GD A.ok plan _)
       rw [A0] at l;have A2:=Hd l;obtain ⟨_,_,D2,A3⟩:=(A.row.old (w':=w3) M).block_lt HG.out;have f3:=A3.free;have s3:w3.cell? ⟨g,k*3+1,none⟩=some (.slice f.a f.b.length f.c):=(M.cell (p:=⟨g,k*3+1,none⟩) (Vx w0 _ q)).trans q;clear l A0;have s4:w3.cell? ⟨g,k*3+2,none⟩=some (.int .i64 (f.sure:Int)):=(M.cell (p:=⟨g,k*3+2,none⟩) (Vx w0 _ B0)).trans B0;have C9:r.d≠g:=by
        have:=Blk.ne (A.blk.old M) A3 dcA;rw [H] at this;exact this
       have s5:(w3.setCell ⟨g,k*3+1,none⟩ (.slice a3 F c3)).cell? ⟨r.d,0,none⟩=some (.slice (some ⟨g,0,none⟩) r.fs.length r'.lc):=(VE (a:=⟨r.d,0,none⟩) (Vq w3 ⟨g,k*3+1,none⟩ r.d _ C9)).trans ((M.cell (p:=⟨r.d,0,none⟩) (Vx w0 _ b0)).trans b0);refine az rfl rfl rfA (fun K hK=> ?_);go_wp2_with fail;refine aq ?_;go_wp2_with fail;go_roundg (gm-1)
       case measure=>omega
       case rel=>
        refine ⟨k+1,_,oA,gnA,o.next I ⟨f.nm,a3,c3,f.b.take F,F⟩ ?_ A2.out.2 A2.out.1⟩;rw [<-Z.out];simp only [dg.p,iP,B3.out];rw [<-A4.out];rfl
     .obtain ⟨j,rfl⟩:∃j,m=j+1:=⟨m-1,oA⟩;have em:(((j+1:Nat):Int)-1)=(j:Int):=oA;rw [em];have B5:j<plan.length:=(by rw [HP.out];omega);obtain ⟨pb,po,rfl,_,hc⟩:=av.elem (g:=dH) (sz:=2) (fun _=>rfl) A7 oA j B5;have p0:wr.cell? ⟨pb,po+j*2,none⟩=some (.string plan[j].1):=hc 0 (show 0<2 by omega);have p1:wr.cell? ⟨pb,po+j*2+1,none⟩=some (.int .i64 plan[j].2):=hc 1 (show 1<2 by omega);have HK:=Hd (AU plan f.nm j B5);clear hc;have D6:j<J:=oA;generalize plan[j]=x at*;by_cases hx:x.1=f.nm
      .have t0:(x.1.toList==f.nm.toList)=true:=(by rw [ni];simp [hx]);have HX:=Hd hx;clear hx;go_wp2_with fail;go_quiet (fail);go_wp2_with fail;go_roundg j
       case measure=>omega
       case rel=>exact ⟨⟨_,rfl⟩,j,rfl,oA,gnA,by rw [HK.out,Vz HX.out]⟩
      .have t0:(x.1.toList==f.nm.toList)=false:=(by rw [ni];simp [hx]);have HX:=Hd hx;clear hx;go_wp2_with fail;go_quiet (fail);go_wp2_with fail;go_roundg j
       case measure=>omega
       case rel=>exact ⟨⟨_,rfl⟩,j,rfl,oA,gnA,by rw [HK.out,VV HX.out]⟩
   .have hke:k=r.fs.length:=oA;have DO:=A.blk.free;rw [H] at DO;have B9:=A.blk;rw [H] at B9;have HC:=Hd G;rw [T.out] at E;clear G;go_wp2_with fail;go_ret;obtain ⟨q1,q2,q3,q4,q5,q6⟩:=HC.out.rest.out;have CK:r'.p.fs=r.p.fs.map (iP plan):=by
     have:=HC.out.p.out;rw [hke,VZ (by simp [cz.p]),Xp (by simp [cz.p]),WO] at this;exact this
    have e1:dz r.p plan=(lV r.p plan,0):=(by unfold dz;rw [VV (by simp [cz.p,HD.out])]);have CW:=((A.blk.set 1 (.bool true)).set 2 (.bool false));have B7:=A.head (w':=(wr.setCell ⟨r'.d,1,none⟩ (.bool true)).setCell ⟨r'.d,2,none⟩ (.bool false)) {r' with down:=true,armed:=false} rfl rfl rfl rfl rfl rfl rfl A.ok.left (by simpa [cF] using CW) (fun x hx=>(Vq _ ⟨r'.d,2,none⟩ x _ hx).trans (Vq _ ⟨r'.d,1,none⟩ x _ hx));refine ⟨{r' with down:=true,armed:=false},?_,?_,HC.out.step.trans ⟨?_,by rw [<-H];exact B7,fun x hx=> .inl hx,rfl⟩⟩
    .rw [e1];first|rfl|simp
    .rw [e1];show (⟨r'.fs.map (·.p),true,false,r'.left,r'.plan⟩:aN)=_;rw [show r'.fs.map (·.p)=r'.p.fs from rfl,CK,q3,q4];rfl
    .exact aJ.setCell (aJ.setCell (aJ.refl _ _) (x:=⟨r.d,1,none⟩) (.inl (.inl H.symm)) _) (x:=⟨r.d,2,none⟩) (.inl (.inl H.symm)) _
theorem vt (w:As) (B:Nat) (r:cz) (h:cS w B r) (O:B<=w.heap.size):
  Calls prog 68 #[.pointer (some ⟨r.d,0,none⟩)] w fun e w'=>e= .returned (.int .i64 (dL r.p).2)/\(r.down=false->∃r',r'.p=(dL r.p).1/\cj B w r w' r'/\((dL r.p).2=0->r'.fs=r.fs/\r'.la=r.la/\r'.lc=r.lc)):=by
 have G:=h.blk.rule;have b:=h.blk.free;have F:=h.ok.left;unfold cF at G;cases E:r.armed with
 |false=>
  rw [E] at G;have A:=Hd (show dL r.p=(r.p,0) by unfold dL;rw [Vz (show r.p.armed=false from E)]);clear E;go_enter func68,ntmps68;go_wp2_with fail;go_ret;exact ⟨by rw [A.out];first|rfl|simp,fun _=>⟨r,by rw [A.out],cj.refl h,fun _=>⟨rfl,rfl,rfl⟩⟩⟩
 |true=>
  rw [E] at G;by_cases J:0<r.left
  .have A:=Hd (show dL r.p=({r.p with left:=r.p.left-1},0) by unfold dL;rw [VV (by simp [cz.p,E]),Vz (show 0<r.p.left from J)]);have g:r.left<=9223372036854775807:=F.2;have Z:IntKind.i64.wrap (r.left-1)=r.left-1:=(by rw [VR];omega);have H:=h.head (w':=w.setCell ⟨r.d,3,none⟩ (.int .i64 (r.left-1))) {r with left:=r.left-1} rfl rfl rfl rfl rfl rfl rfl ⟨by show 0<=r.left-1;omega,by show r.left-1<=_;omega⟩ (by have:=h.blk.set 3 (.int .i64 (r.left-1));simpa [cF] using this) (fun x hx=>Vq _ ⟨r.d,3,none⟩ x _ hx);have P:=Hd H;clear H F;go_enter func68,ntmps68;go_wp2_with fail;go_ret;refine ⟨by rw [A.out];first|rfl|simp,fun _=>⟨{r with left:=r.left-1},by rw [A.out];rfl,⟨aJ.setCell (aJ.refl _ _) (x:=⟨r.d,3,none⟩) (.inl (.inl rfl)) _,?_,fun x hx=> .inl hx,rfl⟩,fun _=>⟨rfl,rfl,rfl⟩⟩⟩;exact P.out
  .have A:=Hd (show dL r.p=(lV r.p r.p.plan,5) by unfold dL;rw [VV (by simp [cz.p,E]),VV (show ¬0<r.p.left from J)]);have I:=si w B r r.pa r.plan.length r.pc r.plan h O h.plan.row rfl h.plan.le_max (fun j o S l T=>by
    obtain ⟨_,_,q,U⟩:=h.plan.block_lt S;obtain ⟨_,_,c2,V⟩:=h.row.block_lt T;exact Blk.ne U V dcA)
   have m:=Hd E;clear F E;go_enter func68,ntmps68;go_wp2_with fail;refine I.mono ?_;clear I;rintro e w1 ⟨Y,rfl,L,M⟩;go_wp2_with fail;go_ret;refine ⟨by rw [A.out];first|rfl|simp,fun N=>⟨Y,?_,M,fun e=>by rw [A.out] at e;cases e⟩⟩;rw [A.out,L];simp [dz,cz.p,N]
theorem CB (w:As) (B:Nat) (r:cz) (h:cS w B r):
  Calls prog 41 #[.pointer (some ⟨r.d,0,none⟩)] w fun e w'=>e= .returned (.int .i64 (lf r.p).2)/\∃r',r'.p=(lf r.p).1/\cj B w r w' r':=by
 have F:=h.blk.rule;have H:=h.blk.free;unfold cF at F;cases A:r.down with
 |false=>
  rw [A] at F;have E:=Hd (show lf r.p=(r.p,2) by unfold lf;rw [VV (by simp [cz.p,A])]);clear A;go_enter func41,ntmps41;go_wp2_with fail;go_ret;exact ⟨by rw [E.out];first|rfl|simp,r,by rw [E.out],cj.refl h⟩
 |true=>
  rw [A] at F;have E:=Hd (show lf r.p=({r.p with down:=false},0) by unfold lf;rw [Vz (show r.p.down=true from A)]);have G:=Hd (h.head (w':=w.setCell ⟨r.d,1,none⟩ (.bool false)) {r with down:=false} rfl rfl rfl rfl rfl rfl rfl h.ok.left (by have:=h.blk.set 1 (.bool false);simpa [cF] using this) (fun x hx=>Vq _ ⟨r.d,1,none⟩ x _ hx));clear A;go_enter func41,ntmps41;go_wp2_with fail;go_ret;exact ⟨by rw [E.out];first|rfl|simp,{r with down:=false},by rw [E.out];rfl,⟨aJ.setCell (aJ.refl _ _) (x:=⟨r.d,1,none⟩) (.inl (.inl rfl)) _,G.out,fun x hx=> .inl hx,rfl⟩⟩
theorem qk (w:As) (B:Nat) (r:cz) (nm:bB) (h:cS w B r):
  Calls prog 42 #[.pointer (some ⟨r.d,0,none⟩),.string nm] w fun e w'=>∃a n c,e= .returned (.tuple #[.slice a n c,.int .i64 (bN r.p nm).2])/\(bN r.p nm).1.length=n/\Own w' w.heap.size 5 1 a n c ((bN r.p nm).1.map bv)/\Below w.heap.size w w':=by
 have H:=tU w B r nm h;have M:=h.blk.rule;unfold cF at M;have Y:r.fs.length<=64:=(by have:=h.ok.count;simpa [cz.p] using this);rcases pD r nm with ⟨E,F,G⟩|⟨E,J,F,G,I⟩|⟨k,L,E,J,F,G,I⟩
 .rw [F,G] at H;have A:=Hd (show bN r.p nm=([],5) by unfold bN;rw [Vz (show r.p.down=true from E)]);clear F G E;go_enter func42,ntmps42;go_wp2_with fail;refine H.mono ?_;rintro e w' ⟨rfl,rfl⟩;go_wp2_with fail;go_ret2;exact ⟨none,0,0,by rw [A.out];first|rfl|simp,by rw [A.out];rfl,by rw [A.out];exact Own.nil _ _ _ _,VW _ _⟩
 .rw [F,G] at H;have A:=Hd (show bN r.p nm=([],4) by unfold bN;rw [VV (by simp [cz.p,E]),I]);clear J F G I E;go_enter func42,ntmps42;go_wp2_with fail;refine H.mono ?_;rintro e w' ⟨rfl,rfl⟩;go_wp2_with fail;go_ret2;exact ⟨none,0,0,by rw [A.out];first|rfl|simp,by rw [A.out];rfl,by rw [A.out];exact Own.nil _ _ _ _,VW _ _⟩
 .rw [F,G] at H;have A:=Hd (show bN r.p nm=(r.fs[k].b,0) by unfold bN;rw [VV (by simp [cz.p,E]),I];rfl);have j:=Hd E;obtain ⟨g,N,U,O,c2⟩:=h.elem k L;have S:=h.files _ (VQ L);have Z:r.fs[k].b.length<=1048576:=h.ok.size r.fs[k].p (VH.2 ⟨_,VQ L,rfl⟩);generalize r.fs[k]=f at*;rw [N] at M;clear J F G I E U c2 N;go_enter func42,ntmps42;go_wp2_with fail;refine H.mono ?_;rintro e w' ⟨rfl,rfl⟩;go_wp2_with fail;refine (kj f.a f.b.length f.c f.b _ S.row rfl oA).mono ?_;rintro e w1 ⟨V,O,rfl,P,T⟩;go_wp2_with fail;go_ret2;exact ⟨V,f.b.length,O,by rw [A.out];first|rfl|simp,by rw [A.out],by rw [A.out];exact P,T⟩
theorem AF {r:cz} {nm:bB} {k:Nat} (G:k<r.fs.length) (A:r.down=false) (E:fF r.p nm=some r.fs[k].p) (H:r.fs[k].nm=nm) (b:Le) (F:¬fE-r.fs[k].b.length<b.length):bw r.p nm b=dL (kF r.p nm fun f=>{f with b:=f.b++b}):=by
 unfold bw mp;rw [VV (by simp [cz.p,A]),E];exact VV F
theorem qr (w:As) (B:Nat) (r:cz) (nm:bB) (h:cS w B r) (hB:B<=w.heap.size) (a:Lt) (len cap:Nat) (l:Le) (hl:aj w a l) (A2:l.length=len) (B2:len<=maxLen):
  Calls prog 18 #[.pointer (some ⟨r.d,0,none⟩),.string nm,.slice a len cap] w fun e w'=>e= .returned (.int .i64 (bw r.p nm l).2)/\∃r',r'.p=(bw r.p nm l).1/\cj B w r w' r':=by
 unfold maxLen at B2;have V:=Hd A2;clear A2;have I:=tU w B r nm h;have O:=h.blk.rule;unfold cF at O;have C4:r.fs.length<=64:=(by have:=h.ok.count;simpa [cz.p] using this);rcases pD r nm with ⟨A,F,G⟩|⟨A,J,F,G,L⟩|⟨k,H,A,J,F,G,L⟩
 .rw [F,G] at I;have E:=Hd (show bw r.p nm l=(r.p,5) by unfold bw mp;rw [Vz (show r.p.down=true from A)]);clear F G A;go_enter func18,ntmps18;go_wp2_with fail;refine I.mono ?_;rintro e w' ⟨rfl,rfl⟩;go_wp2_with fail;go_ret;exact ⟨by rw [E.out];first|rfl|simp,r,by rw [E.out],cj.refl h⟩
 .rw [F,G] at I;have E:=Hd (show bw r.p nm l=(r.p,4) by unfold bw mp;rw [VV (by simp [cz.p,A]),L]);clear J F G L A;go_enter func18,ntmps18;go_wp2_with fail;refine I.mono ?_;rintro e w' ⟨rfl,rfl⟩;go_wp2_with fail;go_ret;exact ⟨by rw [E.out];first|rfl|simp,r,by rw [E.out],cj.refl h⟩
 .rw [F,G] at I;obtain ⟨g,P,c0,o,c2⟩:=h.elem k H;have A4:=h.files _ (VQ H);have B3:r.fs[k].b.length<=1048576:=h.ok.size r.fs[k].p (VH.2 ⟨_,VQ H,rfl⟩);have B4:r.fs[k].sure<=r.fs[k].b.length:=h.ok.sure r.fs[k].p (VH.2 ⟨_,VQ H,rfl⟩);have B0:IntKind.i64.wrap (1048576-(r.fs[k].b.length:Int))=1048576-(r.fs[k].b.length:Int):=(by rw [VR];omega);by_cases U:1048576-r.fs[k].b.length<len
  .have t0:decide (1048576-(r.fs[k].b.length:Int)<(len:Int))=true:=soA;have E:=Hd (show bw r.p nm l=(r.p,3) by
    unfold bw mp;rw [VV (by simp [cz.p,A]),L];exact Vz (by rw [V.out];exact U))
   generalize r.fs[k]=f at*;rw [P] at O;clear J F G L A c0 c2 U P;go_enter func18,ntmps18;go_wp2_with fail;refine I.mono ?_;rintro e w' ⟨rfl,rfl⟩;go_wp2_with fail;go_ret;exact ⟨by rw [E.out];first|rfl|simp,r,by rw [E.out],cj.refl h⟩
  .have t0:decide (1048576-(r.fs[k].b.length:Int)<(len:Int))=false:=soA;have E:=Hd (AF H A L J l (by rw [V.out];exact U));have C3:len<=1048576:=oA;have A3:r.fs[k].b.length+len<=1048576:=oA;obtain ⟨f,y⟩:=At (r.fs[k]);rw [<-y] at o A4 B3 B4 B0 t0 A3 J;have N:=Hd y;have HN:=Hd J;have HG:=Hd P;have HD:=Hd A;rw [P] at O;clear J F G L A c0 c2 U y P;go_enter func18,ntmps18;go_wp2_with fail;refine I.mono ?_;rintro e w' ⟨rfl,rfl⟩;go_wp2_with fail;refine (kj f.a f.b.length f.c f.b _ A4.row rfl oA).mono ?_;rintro e w1 ⟨a1,C6,rfl,S,M⟩;have B5:=hl.below M;have Z:∀b i (v:Value),w'.cell? ⟨b,i,none⟩=some v->w1.cell? ⟨b,i,none⟩=some v:=fun b i v Y=>(M.cell (p:=⟨b,i,none⟩) (Vx w' _ Y)).trans Y;have b0:=Z r.d 0 (.slice (some ⟨g,0,none⟩) r.fs.length r.lc) (O 0);have A5:=Z g (k*3+1) _ o;have A6:=M.size;clear Z O o;go_wp2_with fail;have A7:∀W,cI 5 w1.drew W->∀b i cs t (v:Value),Blk w1 b cs t->t≠5->w1.cell? ⟨b,i,none⟩=some v->W.cell? ⟨b,i,none⟩=some v:=fun W hW b i cs t v B6 B7 Y=>(VE (a:=⟨b,i,none⟩) (hW.block b cs t (0,0) B6 B7)).trans Y;have l0:∀W,cI 5 w1.drew W->W.cell? ⟨r.d,0,none⟩=some (.slice (some ⟨g,0,none⟩) r.fs.length r.lc):=fun W hW=>A7 W hW _ 0 _ _ _ (h.blk.old M) dcA b0;obtain ⟨_,_,C5,A0⟩:=(h.row.old M).block_lt HG.out;refine kO 5 (.step 0 (.step 1 (.step 2 (.step 3 (.step 4 (.step 5 (.step 6 (.step 7 (.step 8 (.step 9 (.step 10 .done))))))))))) krA krA cdA ?_
   repeat refine txA ?_
   refine am rfl rfl rfA (fun K hK=> ?_);refine eF (.tmp 46) (.tmp 47) 22 rfl oG rfl (S.drew) rfl (B5.drew) (by rw [lmA,V.out,Vr]) (cV _) mxA oA (by exact A6) ?_;intro a2 A8 w2 B1 j;refine hK _ _ (cI.grown S.drew j) ?_;clear hK K l0 A7;have B9:Below w'.heap.size w' w2:=S.drew.grown M.drew (VU _) j A6;have A1:=A0.drew.keepNot (cI.grown S.drew j) dcA;have f2:=A1.free;have s2:w2.cell? ⟨g,k*3+1,none⟩=some (.slice f.a f.b.length f.c):=(A1.rule _).trans ((A0.rule _).symm.trans A5);have m:(f.b++l).length=f.b.length+len:=(by rw [laA,V.out]);have T:=Hd (h.onlyB hB H HG.out B9 ⟨f.nm,a2,A8,f.b++l,f.sure⟩ (by rw [N.out]) (by rw [N.out]) (by rw [m,VF];exact B1) (by
    rw [cz.p_set H h.nd (fun q=>{q with b:=q.b++l}) _ (by rw [<-N.out];rfl)];refine h.ok.upd _ _ (fun _ _=>rfl) (fun q hq A9=> ?_) (fun q hq A9=> ?_)
    .have:=h.ok.sure q hq;simp;omega
    .obtain ⟨f',CK,rfl⟩:=VH.1 hq;have e:f'=r.fs[k]:=cS.same h CK (VQ H) A9;show (f'.b++l).length<=fE;rw [e,<-N.out,m];exact A3))
   rw [m] at T
   repeat refine txA ?_
   refine az rfl rfl rfA (fun K hK=> ?_);go_wp2_with fail;refine aq ?_;have CW:=vt _ B _ T.out.at' (Vd hB T.out.turn.size);clear s2 f2 A5 b0;go_wp2_with fail;refine CW.mono ?_;rintro e w4 ⟨rfl,C0⟩;obtain ⟨r4,C1,C2,_⟩:=C0 HD.out;have BY:cz.p {r with fs:=r.fs.set k ⟨f.nm,a2,A8,f.b++l,f.sure⟩}=kF r.p nm (fun q=>{q with b:=q.b++l}):=by
    rw [cz.p_set H h.nd (fun q=>{q with b:=q.b++l}) _ (by rw [<-N.out];rfl),<-N.out,HN.out]
   go_wp2_with fail;go_ret;refine ⟨?_,r4,?_,T.out.trans C2⟩
   .rw [E.out,<-BY];first|rfl|simp
   .rw [E.out,<-BY];exact C1
end
end Go.Proofs.YtioigihakjlopaaGreat

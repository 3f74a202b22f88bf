import Derived.Test.YtioigihakjlopaaGreatVF37
import Derived.Test.YtioigihakjlopaaGreatVF38
namespace Go.Proofs.YtioigihakjlopaaGreat
open Go.Proofs.Tryz
set_option linter.unusedVariables false
set_option linter.unusedSimpArgs false
set_option maxHeartbeats 16000000
set_option maxRecDepth 100000
section
open Go.RowKit
theorem ui (s:ByteArray) (w:World) (hz:qJ s):Calls prog 94 #[.string s] w fun e w'=>e= .returned (.bool (cZ s))/\Below w.heap.size w w':=by
 have hs:s.size<=140737488351232:=hz;by_cases h1:1<=s.size
 .have t0:decide ((s.size:Int)≥1)=true:=soA;have t1:decide ((1:Int)<=(s.size:Int))=true:=soA;have hk:cZ s=decide ((s.size:Int)<=40):=by
   unfold cZ;rw [VO (show s.size≠0 by omega),Vr,decide_eq_decide];omega
  rw [hk];have t2:decide ((s.size:Int)<=40)=decide ((s.size:Int)<=40):=rfl;go_enter func94,ntmps94;go_wp2_with fail;go_ret;exact ⟨rfl,AT _ _⟩
 .have t0:decide ((s.size:Int)≥1)=false:=soA;have t1:decide ((1:Int)<=(s.size:Int))=false:=soA;have hk:cZ s=false:=by
   unfold cZ;rw [Vd (show ¬s.size≠0 by omega),WV]
  rw [hk];go_enter func94,ntmps94;go_wp2_with fail;go_ret;exact ⟨rfl,AT _ _⟩
def ry (p:bq):Bool:=decide (p=dG)
theorem rh (p:bq) (h:dt) (w:World) (hp:eK w p h):Calls prog 95 #[bI p h] w fun e w'=>e= .returned (.bool (ry p))/\Below w.heap.size w w':=by
 obtain ⟨op,side,place,target,ids,pairs⟩:=p;obtain ⟨⟨ia,inn,ic⟩,⟨pa,pn,pc⟩⟩:=h;have l1:ids.length=inn:=hp.ids.2.1;have l2:pairs.length=pn:=hp.pairs.2.1;clear hp;obtain ⟨R,hR⟩:=Le (ry ⟨op,side,place,target,ids,pairs⟩);rw [<-hR];have e0:∃c,(op==0)=c/\(c=false->R=false):=⟨_,rfl,fun h=>by rw [hR];refine Vd fun e=> ?_;cases e;simp at h⟩;have e1:∃c,(side==0)=c/\(c=false->R=false):=⟨_,rfl,fun h=>by rw [hR];refine Vd fun e=> ?_;cases e;simp at h⟩;have e2:∃c,(place==0)=c/\(c=false->R=false):=⟨_,rfl,fun h=>by rw [hR];refine Vd fun e=> ?_;cases e;simp at h⟩;have e3:∃c,(target==0)=c/\(c=false->R=false):=⟨_,rfl,fun h=>by rw [hR];refine Vd fun e=> ?_;cases e;simp at h⟩;have e4:∃c,((inn:Int)==0)=c/\(c=false->R=false):=⟨_,rfl,fun h=>by rw [hR];refine Vd fun e=> ?_;cases e;subst l1;simp [dG] at h⟩;have e5:∃c,((pn:Int)==0)=c/\(c=false->R=false):=⟨_,rfl,fun h=>by rw [hR];refine Vd fun e=> ?_;cases e;subst l2;simp [dG] at h⟩;have e6:op=0->side=0->place=0->target=0->inn=0->pn=0->R=true:=fun h0 h1 h2 h3 h4 h5=>by
  rw [hR];refine VO ?_;subst h0 h1 h2 h3;rw [Vz (l1.trans h4),Vz (l2.trans h5)];rfl
 clear hR;obtain ⟨c0,f0,n0⟩:=e0;obtain ⟨c1,f1,n1⟩:=e1;obtain ⟨c2,f2,n2⟩:=e2;obtain ⟨c3,f3,n3⟩:=e3;obtain ⟨c4,f4,n4⟩:=e4;obtain ⟨c5,f5,n5⟩:=e5;unfold bI;dsimp only;go_enter func95,ntmps95;go_wp2_with fail
 any_goals first|(have q:=n0 (Vq.2 asA);go_ret;exact ⟨by rw [q];rfl,cL⟩)|(have q:=n1 (Vq.2 asA);go_ret;exact ⟨by rw [q];rfl,cL⟩)|(have q:=n2 (Vq.2 asA);go_ret;exact ⟨by rw [q];rfl,cL⟩)|(have q:=n3 (Vq.2 asA);go_ret;exact ⟨by rw [q];rfl,cL⟩)|(have q:=n4 (Vq.2 asA);go_ret;exact ⟨by rw [q];rfl,cL⟩)|skip
 have k0:op=0:=eq_of_beq (f0.trans asA);have k1:side=0:=eq_of_beq (f1.trans asA);have k2:place=0:=eq_of_beq (f2.trans asA);have k3:target=0:=eq_of_beq (f3.trans asA);have k4:inn=0:=(by have:=f4.trans (by assumption:c4=true);simpa using this);have hR:R=c5:=by
  cases c5 with
  |true=>exact e6 k0 k1 k2 k3 k4 (by simpa using f5)
  |false=>exact n5 rfl
 go_ret;exact ⟨by rw [hR];rfl,cL⟩
theorem ED (a:bq):ry a=EF a:=by
 obtain ⟨op,side,place,target,ids,pairs⟩:=a;unfold ry EF dG;rw [Wj];simp only [VN,Vu];constructor
 .intro e;cases e;exact ⟨rfl,rfl,rfl,rfl,rfl⟩
 .rintro ⟨rfl,rfl,rfl,rfl,h⟩;rw [Vz (show ids.length=0 by omega),Vz (show pairs.length=0 by omega)]
theorem ym {p:ao} (h:¬(0<=p.game/\0<=p.table)):il p=false:=by
 have h1:mK p 0=false:=by
  show (decide (0<=p.game)&&decide (0<=p.table))=false;by_cases h0:0<=p.game
  .rw [Vd (show ¬0<=p.table from fun e=>h ⟨h0,e⟩),Bool.and_false]
  .rw [Vd h0,WV]
 unfold il;rw [h1];rfl
theorem EJ {p:ao} (h:0<=p.game/\0<=p.table) (hk:p.kind=1):il p=EN p:=by
 have h1:mK p 0=true:=by
  show (decide (0<=p.game)&&decide (0<=p.table))=true;rw [VO h.1,VO h.2];rfl
 have h2:mK p 1=EN p:=(by show (if p.kind=1 then EN p else true)=_;rw [if_pos hk]);have h3:mK p 2=true:=(by show (if p.kind=1 then true else DD p)=_;rw [if_pos hk]);unfold il;rw [h1,h2,h3,Vr,Bool.and_true]
theorem EI {p:ao} (h:0<=p.game/\0<=p.table) (hk:¬p.kind=1):il p=DD p:=by
 have h1:mK p 0=true:=by
  show (decide (0<=p.game)&&decide (0<=p.table))=true;rw [VO h.1,VO h.2];rfl
 have h2:mK p 1=true:=(by show (if p.kind=1 then EN p else true)=_;rw [if_neg hk]);have h3:mK p 2=DD p:=(by show (if p.kind=1 then true else DD p)=_;rw [if_neg hk]);unfold il;rw [h1,h2,h3,Vr,Vr]
theorem Iy {p:ao} {h:aW} {w:World} (hd:dC w p h):EN p=(decide ((p.fmt.size:Int)<=40)&&(cZ p.n0&&(cZ p.n1&&(decide ((h.d0.n:Int)<=60)&&(decide ((h.d1.n:Int)<=60)&&(decide ((h.dr.n:Int)<=256)&&ry p.act)))))):=by
 have l0:=hd.d0.2.1;have l1:=hd.d1.2.1;have l2:=hd.dr.2.1;rw [ED];unfold EN;rw [l0,l1,l2];have e:∀a b:Nat,decide (a<=b)=decide ((a:Int)<=(b:Int)):=fun a b=>(by rw [decide_eq_decide];omega);rw [e,e,e,e];rfl
theorem Iw {p:ao} {h:aW} {w:World} (hd:dC w p h):DD p=((p.kind==2)&&((p.fmt.toList==([]:List UInt8))&&((p.n0.toList==([]:List UInt8))&&((p.n1.toList==([]:List UInt8))&&(((h.d0.n:Int)==0)&&(((h.d1.n:Int)==0)&&(((h.dr.n:Int)==0)&&(p.table==0)))))))):=by
 have l0:=hd.d0.2.1;have l1:=hd.d1.2.1;have l2:=hd.dr.2.1;unfold DD;rw [pP,pP,pP,l0,l1,l2,Wj];simp only [VN,Vu,Xj];constructor
 .rintro ⟨a,b,c,⟨d,e⟩,f⟩;exact ⟨a,c,d,e,oA,oA,oA,b⟩
 .rintro ⟨a,c,d,e,f,g,i,b⟩;exact ⟨a,b,c,⟨d,e⟩,oA⟩
theorem En (p:ao) (h:aW) (w:World) (hd:dC w p h):Calls prog 33 #[dR p h] w fun e w'=>e= .returned (.bool (il p))/\Below w.heap.size w w':=by
 have hz0:=hd.n0;have hz1:=hd.n1;have e2:=Iy hd;have e3:=Iw hd;have ha:=hd.act;rw [aH];obtain ⟨R,hR⟩:=Le (il p);rw [<-hR];have HR:=Hd hR;clear hR hd;go_enter func33,ntmps33;go_upto_region 1 with (fail);obtain ⟨X,hX⟩:=Le w.heap.size;rw [<-hX];refine af (fun W=>Blk W X (ak p h).toArray 40/\Below w.heap.size w W) ⟨by subst hX;exact Blk.new w _ _,by subst hX;exact cL⟩ ?_;rintro W1 ⟨bX,hbw⟩;clear hX;have A:=bX.rule;have ca:=rh p.act h.act;generalize hna:ry p.act=na at*;generalize ho0:cZ p.n0=o0 at*;generalize ho1:cZ p.n1=o1 at*;by_cases hg:p.game<0
 .have hr:R=false:=HR.out.trans (ym oA);have t0:decide (p.game<0)=true:=(by simpa using hg);clear e2 e3 HR ca;unfold ak at A;go_wp2_with fail;go_ret;exact ⟨by first|rfl|(rw [hr];rfl),hbw⟩
 by_cases hg2:p.table<0
 .have hr:R=false:=HR.out.trans (ym oA);have t0:decide (p.game<0)=false:=(by simpa using hg);have t1:decide (p.table<0)=true:=(by simpa using hg2);clear e2 e3 HR ca;unfold ak at A;go_wp2_with fail;go_ret;exact ⟨by first|rfl|(rw [hr];rfl),hbw⟩
 have t0:decide (p.game<0)=false:=(by simpa using hg);have t1:decide (p.table<0)=false:=(by simpa using hg2);by_cases hk:p.kind=1
 .have hr:R=_:=(HR.out.trans (EJ oA hk)).trans e2;have hr':=Hd hr;have t2:(p.kind==1)=true:=(by simpa using hk);clear hr e2 e3 HR hg hg2 hk;unfold ak at A;go_wp2_with fail
  any_goals first
   |(have q:R=false:=(by rw [hr'.out];rw [Vd (show ¬(p.fmt.size:Int)<=40 by omega)];simp);go_ret;exact ⟨by rw [q];rfl,hbw⟩)
   |skip
  refine (ui _ _ hz0).mono ?_;rintro e W2 ⟨rfl,hb2⟩;rw [ho0];replace bX:=bX.old hb2;replace hbw:=ae hbw hb2;clear A hb2;have A:=bX.rule;unfold ak at A;go_wp2_with fail
  any_goals first
   |(have q:R=false:=(by rw [hr'.out];rw [show o0=false from (by first|assumption|exact Vq.2 asA)];simp);go_ret;exact ⟨by rw [q];rfl,hbw⟩)
   |skip
  refine (ui _ _ hz1).mono ?_;rintro e W3 ⟨rfl,hb3⟩;rw [ho1];replace bX:=bX.old hb3;replace hbw:=ae hbw hb3;clear A hb3;have A:=bX.rule;unfold ak at A;go_wp2_with fail
  any_goals first
   |(have q:R=false:=(by rw [hr'.out];rw [show o1=false from (by first|assumption|exact Vq.2 asA)];simp);go_ret;exact ⟨by rw [q];rfl,hbw⟩)
   |(have q:R=false:=(by rw [hr'.out];rw [Vd (show ¬(h.d0.n:Int)<=60 by omega)];simp);go_ret;exact ⟨by rw [q];rfl,hbw⟩)
   |(have q:R=false:=(by rw [hr'.out];rw [Vd (show ¬(h.d1.n:Int)<=60 by omega)];simp);go_ret;exact ⟨by rw [q];rfl,hbw⟩)
   |(have q:R=false:=(by rw [hr'.out];rw [Vd (show ¬(h.dr.n:Int)<=256 by omega)];simp);go_ret;exact ⟨by rw [q];rfl,hbw⟩)
   |skip
  have cb:=rh p.act h.act W3 (ha.old hbw);rw [hna] at cb;unfold bI at cb;refine cb.mono ?_;clear cb ca;rintro e W4 ⟨rfl,hb4⟩;replace hbw:=ae hbw hb4;have q:R=na:=by
   rw [hr'.out,show o0=true by assumption,show o1=true by assumption,VO (show (p.fmt.size:Int)<=40 by assumption),VO (show (h.d0.n:Int)<=60 by assumption),VO (show (h.d1.n:Int)<=60 by assumption),VO (show (h.dr.n:Int)<=256 by assumption)];rfl
  clear A hb4;go_wp2_with fail;go_ret;exact ⟨by rw [q];rfl,hbw⟩
 .have hr:R=_:=(HR.out.trans (EI oA hk)).trans e3;have hr':=Hd hr;have t2:(p.kind==1)=false:=(by simpa using hk);clear hr e2 e3 HR hg hg2 hk ca ha;unfold ak at A;go_wp2_with fail
  any_goals first
  |(have q:R=(p.table==0):=(by rw [hr'.out];clear A;simp [*];done);go_ret;exact ⟨by rw [q];rfl,hbw⟩)
  |(have q:R=false:=(by rw [hr'.out];clear A;simp [*];done);go_ret;exact ⟨by rw [q];rfl,hbw⟩)
def Fm (q:DC):Int:=if q.bad<0/\q.at_<q.bs.length then (q.at_:Int) else q.bad
theorem OO (w:World) (B:Nat) (q:DC) (hq:DAt w B q) (hB:B<=w.heap.size):
  Calls prog 129 #[.pointer (some ⟨q.c,0,none⟩)] w fun e w'=>e= .returned (.bool (decide (Fm q<0)))/\ep B w q w' q.at_ (Fm q):=by
 have hc:=hq.blk.rule;unfold gB at hc;have hlo:=hq.lo;have hle:=hq.le;have hmx:=hq.max;by_cases hb:q.bad<0
 .have d0:decide (q.bad<0)=true:=(by simpa using hb);by_cases hl:q.at_<q.bs.length
  .have d1:decide ((q.at_:Int)<(q.bs.length:Int))=true:=soA;have d1':decide (q.at_<q.bs.length)=true:=soA;have he:Fm q=(q.at_:Int):=(by unfold Fm;rw [if_pos ⟨hb,hl⟩]);rw [he];have hz:decide ((q.at_:Int)<0)=false:=skA;rw [hz];go_enter func129,ntmps129;go_wp2_with fail;go_quiet (fail);go_upto_region 2 with (fail);refine af (fun W=>ep B w q W q.at_ q.bad) ⟨hq.old cL hB,aJ.of_below cL⟩ ?_;intro w1 hs1;clear hc;have hq1:DAt w1 B q:=hs1.at';have hc:=hq1.blk.rule;unfold gB at hc;have cw:=oQ w1 B q q.at_ hq1 oA;rw [if_pos hb] at cw;go_wp2_with fail;refine cw.mono ?_;clear cw;rintro e w2 ⟨rfl,hs⟩;clear hc;have c2:=hs.at'.blk.rule;unfold gB DC.to at c2;dsimp only at c2;go_wp2_with fail;go_ret;exact ⟨rfl,⟨hs.at',hs1.turn.trans hs.turn fun _ hx=> .inl hx⟩⟩
  .have d1:decide ((q.at_:Int)<(q.bs.length:Int))=false:=soA;have d1':decide (q.at_<q.bs.length)=false:=soA;have he:Fm q=q.bad:=(by unfold Fm;rw [if_neg fun h=>hl h.2]);rw [he];go_enter func129,ntmps129;go_wp2_with fail;go_quiet (fail);go_wp2_with fail;go_ret;exact ⟨by simp [hb],⟨hq.old cL hB,aJ.of_below cL⟩⟩
 .have d0:decide (q.bad<0)=false:=(by simpa using hb);have he:Fm q=q.bad:=(by unfold Fm;rw [if_neg fun h=>hb h.1]);rw [he];go_enter func129,ntmps129;go_wp2_with fail;go_quiet (fail);go_wp2_with fail;go_ret;exact ⟨by simp [hb],⟨hq.old cL hB,aJ.of_below cL⟩⟩
theorem av.setApart {w:World} {B Y:Nat} {s:Sl} {l:List Int} {cs:Array Value} {t:TypeId} (h:av w B s l) (hy:Blk w Y cs t) (hne:t≠3) (i:Nat) (v:Value):av (w.setCell ⟨Y,i,none⟩ v) B s l:=⟨h.1.setCell_apart hy hne i v,(h.1.setCell_apart hy hne i v).row,h.2.2⟩
theorem bo.ret {α:Type} {k:Nat} {b:Int} {x:α} (h: -1<=b):bo k b (fun a=> .ok (x,a)) x k b:=⟨fun _=>rfl,fun h'=>⟨rfl,oA,rfl⟩⟩
theorem ep.set {w wr:World} {B k X i:Nat} {b:Int} {q:DC} (h:ep B w q wr k b) (hB:B<=w.heap.size) (hX:w.heap.size<=X) (hne:X≠q.c) (v:Value):ep B w q (wr.setCell ⟨X,i,none⟩ v) k b:=
 ⟨h.at'.keep (VU _ _ _ _ (Vf hne)) ((AT _ _).setCell (At hB hX) _),h.turn.setCell (x:=⟨X,i,none⟩) (.inr hX) v⟩
theorem ep.blk {wr w':World} {B k k' X:Nat} {b b':Int} {q:DC} {cs:Array Value} {t:TypeId} (h:ep B wr (q.to k b) w' k' b') (hx:Blk wr X cs t) (hne:X≠q.c):Blk w' X cs t:=(h.turn.block X hx.lt hne).trans hx
def JY (n k:Nat) (b:Int):Int:=if b<0/\k<n then (k:Int) else b
theorem Jk (q:DC) (k:Nat) (b:Int):Fm (q.to k b)=JY q.bs.length k b:=rfl
theorem bo.whole {α:Type} {bs:List UInt8} {rd:List UInt8->Nat->Rd α} {x:α} {k:Nat} {b:Int} (h:bo 0 (-1) (rd bs) x k b):
  (JY bs.length k b<0/\fZ rd bs= .ok x)\/(¬JY bs.length k b<0/\∃p:Nat,JY bs.length k b=(p:Int)/\fZ rd bs= .error p):=by
 have e:=h.2 dcA;unfold fZ JY;cases hr:rd bs 0 with
 |error p=>
  rw [hr] at e;have e:b=(p:Int):=e;subst e;rw [if_neg oA];exact .inr ⟨oA,p,rfl,rfl⟩
 |ok y=>
  rw [hr] at e;obtain ⟨y1,y2⟩:=y;obtain ⟨rfl,rfl,rfl⟩:y1=x/\b= -1/\k=y2:=e;dsimp only;by_cases hk:k<bs.length
  .rw [if_pos ⟨dcA,hk⟩,if_pos hk];exact .inr ⟨oA,k,rfl,rfl⟩
  .rw [if_neg (fun h=>hk h.2),if_neg hk];exact .inl ⟨dcA,rfl⟩
theorem KQ:lR prog 157 2:=⟨⟨_,underlying157,rfl⟩,krA⟩
def GQ (w:World) (B':Nat) (q:DC) (X:Nat) (op side place target:Int) (ids:List Int) (idsS:Sl) (k6:Nat) (b6:Int) (N:Nat) (f:Nat) (v7:Value) (wr:World):Prop:=
 ∃(i k:Nat) (b:Int) (a:Option Addr) (c:Nat) (l:List bK),i+f=N/\v7= .int .i64 (i:Int)/\l.length=i/\(∀x∈l,x.wf)/\Own wr B' 157 2 a i c (l.flatMap bK.cells)/\
  Blk wr X (ay ⟨op,side,place,target,ids,[]⟩ ⟨idsS,⟨a,i,c⟩⟩).toArray 38/\av wr B' idsS ids/\B'<=wr.heap.size/\ep w.heap.size w q wr k b/\
  Hid (∀m k' b',bo k b (bC (fi q.bs) f) m k' b'->bo k6 b6 (eS q.bs) (l++m) k' b')
theorem Ey (W:World) (B:Nat):bh W B dG lm:=by
 have h0:av W B jR []:=av.nil _ _;have h1:aN W B jR []:=aN.nil _ _;have hz:eO 0:=(by show (Lit.int .i64 0).wf=true;decide);have hz8:wf8 0:=(by show (Lit.int .i8 0).wf=true;decide);exact ⟨hz8,hz,hz,hz,h0,h1⟩
theorem ur (w:World) (a:Option Addr) (n cap:Nat) (bs:List UInt8) (hb:ah w a bs) (hn:bs.length=n) (hm:n<=1048576):
  Calls prog 87 #[.slice a n cap] w fun e w'=>∃h,e= .returned (.tuple #[bI (dP bs).1 h,.int .i64 ((dP bs).2.1:Int),.int .i64 (dP bs).2.2])/\bh w' w.heap.size (dP bs).1 h/\Below w.heap.size w w':=by
 have HN:=Hd hn;clear hn;have d0:decide ((1048576:Int)<(n:Int))=false:=soA;go_enter func87,ntmps87;go_upto_region 1 with (fail);obtain ⟨X,hX⟩:=Le w.heap.size;rw [<-hX];refine af (fun W=>Blk W X (ay dG lm).toArray 38/\Below w.heap.size w W) ⟨by rw [hX];exact Blk.new w (ay dG lm).toArray _,cL⟩ ?_;rintro W0 ⟨bx0,hb0⟩;have hXl:=bx0.lt;have hgX:w.heap.size<=X:=VR hX.symm;clear hX;go_upto_region 4 with (fail);obtain ⟨C,hC⟩:=Le W0.heap.size;rw [<-hC];refine af (fun W=>Blk W C #[.slice a n cap,.int .i64 0,.int .i64 (-1)] 191/\Below W0.heap.size W0 W) ⟨by rw [hC];exact Blk.new W0 _ _,cL⟩ ?_;rintro W1 ⟨hc1,hb1⟩;have hXC:X≠C:=oA;have hwC:w.heap.size<=C:=(by have:=hb0.size;omega);clear hC;have hbz:ah W1 a bs:=hb.below (ae hb0 hb1);have hlow:InB w.heap.size a bs.length:=fun hp ad ha=>by
  obtain ⟨b',o',e1,e2⟩:=hb 0 (by simpa using hp);rw [ha] at e1;cases e1;exact VV w _ e2
 obtain ⟨q,hqd⟩:∃q:DC,q=⟨C,a,cap,bs,0,-1⟩:=⟨_,rfl⟩;have hB:w.heap.size<=w.heap.size:=Lt _;have s1:ep w.heap.size w q W1 0 (-1):=by
  subst hqd;exact ⟨⟨hwC,by show Blk W1 C #[.slice a bs.length cap,_,_] _;rw [HN.out];exact hc1,hbz,hlow,Vo _,by show bs.length<=_;rw [HN.out];exact hm,by show (-1:Int)<=-1;decide,by show (-1:Int)<=1048576;decide⟩,aJ.of_below (ae hb0 hb1)⟩
 have hcc:∀k b,(q.to k b).c=C:=(by subst hqd;intros;rfl);have hXc:X≠q.c:=(by subst hqd;exact hXC);have hqs:q.bs=bs:=(by subst hqd;rfl);have hqC:C=q.c:=(by subst hqd;rfl);have bx1:=bx0.old hb1;obtain ⟨B',hB'⟩:=Le W1.heap.size;have z1:B'<=W1.heap.size:=VR hB';have hXB:X<B':=(by have:=hb1.size;omega);have hwB:w.heap.size<=B':=oA;have hF:∀x,x=q.c->x<B':=fun x hx=>(by rw [hx,<-hqC,hB'];exact hc1.lt);have HQS:=Hd hqs;have HQC:=Hd hqC;clear hqd bx0 hb0 hb1 hc1 hbz hlow hB' hqs hqC;have cb:=Hr W1 w.heap.size (q.to 0 (-1)) s1.at' (At hB s1.turn.size);rw [hcc] at cb;go_wp2_with fail;refine cb.mono ?_;clear cb;rintro e V ⟨op,k2,b2,rfl,f2,t,g2⟩;have by':=t.blk bx1 hXc;have fy:=by'.free;have cy:V.cell? ⟨X,0,none⟩=some (.int .i8 0):=by'.rule 0;go_upto_region 5 with (fail);refine af (fun W=>Blk W X (ay ⟨op,0,0,0,[],[]⟩ ⟨jR,jR⟩).toArray 38/\ep w.heap.size w q W k2 b2/\B'<=W.heap.size) ⟨by'.set 0 (.int .i8 op),(s1.trans t).set hB hgX hXc (.int .i8 op),by have:=t.turn.size;simp [World.setRow];omega⟩ ?_;clear by' t bx1 s1 z1 fy cy;rintro W2 ⟨bx2,s2,z2⟩;have cb:=uE W2 w.heap.size (q.to k2 b2) s2.at' (At hB s2.turn.size);rw [hcc] at cb;go_wp2_with fail;refine cb.mono ?_;clear cb;rintro e V ⟨m,k3,b3,rfl,t,g3⟩;have f3:=kG m;generalize m.toInt=side at*;have by':=t.blk bx2 hXc;have fy:=by'.free;have cy:V.cell? ⟨X,1,none⟩=some (.int .i64 0):=by'.rule 1;go_upto_region 6 with (fail);refine af (fun W=>Blk W X (ay ⟨op,side,0,0,[],[]⟩ ⟨jR,jR⟩).toArray 38/\ep w.heap.size w q W k3 b3/\B'<=W.heap.size) ⟨by'.set 1 (.int .i64 side),(s2.trans t).set hB hgX hXc (.int .i64 side),by have:=t.turn.size;simp [World.setRow];omega⟩ ?_;clear by' t bx2 s2 z2 fy cy;rintro W3 ⟨bx3,s3,z3⟩;have cb:=uE W3 w.heap.size (q.to k3 b3) s3.at' (At hB s3.turn.size);rw [hcc] at cb;go_wp2_with fail;refine cb.mono ?_;clear cb;rintro e V ⟨m,k4,b4,rfl,t,g4⟩;have f4:=kG m;generalize m.toInt=place at*;have by':=t.blk bx3 hXc;have fy:=by'.free;have cy:V.cell? ⟨X,2,none⟩=some (.int .i64 0):=by'.rule 2;go_upto_region 7 with (fail);refine af (fun W=>Blk W X (ay ⟨op,side,place,0,[],[]⟩ ⟨jR,jR⟩).toArray 38/\ep w.heap.size w q W k4 b4/\B'<=W.heap.size) ⟨by'.set 2 (.int .i64 place),(s3.trans t).set hB hgX hXc (.int .i64 place),by have:=t.turn.size;simp [World.setRow];omega⟩ ?_;clear by' t bx3 s3 z3 fy cy;rintro W4 ⟨bx4,s4,z4⟩
 have cb:=uE W4 w.heap.size (q.to k4 b4) s4.at' (At hB s4.turn.size);rw [hcc] at cb;go_wp2_with fail;refine cb.mono ?_;clear cb;rintro e V ⟨m,k5,b5,rfl,t,g5⟩;have f5:=kG m;generalize m.toInt=target at*;have by':=t.blk bx4 hXc;have fy:=by'.free;have cy:V.cell? ⟨X,3,none⟩=some (.int .i64 0):=by'.rule 3;go_upto_region 8 with (fail);refine af (fun W=>Blk W X (ay ⟨op,side,place,target,[],[]⟩ ⟨jR,jR⟩).toArray 38/\ep w.heap.size w q W k5 b5/\B'<=W.heap.size) ⟨by'.set 3 (.int .i64 target),(s4.trans t).set hB hgX hXc (.int .i64 target),by have:=t.turn.size;simp [World.setRow];omega⟩ ?_;clear by' t bx4 s4 z4 fy cy;rintro W5 ⟨bx5,s5,z5⟩;have cb:=KW W5 w.heap.size (q.to k5 b5) s5.at' (At hB s5.turn.size);rw [hcc] at cb;go_wp2_with fail;refine cb.mono ?_;clear cb;rintro e V ⟨idsS,ids,k6,b6,rfl,on,t,g6⟩;replace on:=on.lower z5;have by':=t.blk bx5 hXc;have fy:=by'.free;have cy:V.cell? ⟨X,4,none⟩=some (.slice none 0 0):=by'.rule 4;go_upto_region 9 with (fail);refine af (fun W=>Blk W X (ay ⟨op,side,place,target,ids,[]⟩ ⟨idsS,jR⟩).toArray 38/\ep w.heap.size w q W k6 b6/\av W B' idsS ids/\B'<=W.heap.size) ⟨by'.set 4 (.slice idsS.a idsS.n idsS.c),(s5.trans t).set hB hgX hXc (.slice idsS.a idsS.n idsS.c),(on).set ⟨X,4,none⟩ (.slice idsS.a idsS.n idsS.c) hXB,by have:=t.turn.size;simp [World.setRow];omega⟩ ?_;clear by' t bx5 s5 z5 fy cy on;rintro W6 ⟨bx6,s6,oids,z6⟩;have cb:=CU W6 w.heap.size (q.to k6 b6) 16 s6.at' (At hB s6.turn.size) dcA dcA;rw [hcc] at cb;go_wp2_with fail;refine cb.mono ?_;clear cb;rintro e W7 ⟨N,k7,b7,rfl,hN,hN0,t7,g7⟩;have hst:GQ w B' q X op side place target ids idsS k6 b6 N N (.int .i64 0) W7:=⟨0,k7,b7,none,0,[],oA,rfl,rfl,fun x hx=>by simp at hx,Own.nil _ _ _ _,t7.blk bx6 hXc,av.turn oids t7.turn hF,At z6 t7.turn.size,s6.trans t7,Hd fun m k' b' h=>g7.list h⟩;clear g7 bx6 oids z6 s6 t7;go_wp2_with fail;go_loopg [7] N (GQ w B' q X op side place target ids idsS k6 b6 N)
 case atStart=>exact hst
 case round=>
  clear hst;obtain ⟨i,k,b,a',c,l,hi,rfl,hll,hwf,hown,bx,o1,z,hs,haf⟩:=hrel;by_cases hlt:i<N
  .have t0:decide ((i:Int)<(N:Int))=true:=soA;go_upto_region 14 with (fail);obtain ⟨Y,hY⟩:=Le wr.heap.size;rw [<-hY];refine af (fun W=>Blk W Y #[.int .i64 0,.int .i64 0] 157/\Below wr.heap.size wr W) ⟨by rw [hY];exact Blk.new _ _ _,cL⟩ ?_;rintro Wa ⟨ya,hba⟩;have hYB:B'<=Y:=oA;have hYX:Y≠X:=oA;have hYc:Y≠q.c:=fun h=>(by have:=hF Y h;omega);have sa:ep w.heap.size w q Wa k b:=⟨hs.at'.old hba (At hB hs.turn.size),hs.turn.trans (aJ.of_below (F:=fun x=>x=q.c) hba) fun x hx=> .inl hx⟩;replace bx:=bx.old hba;replace o1:=av.old o1 hba;have hYo:∀x:Addr,a'=some x->x.block≠Y:=fun x hx=>(by have:=(hown.block_lt hx).2.1;omega);replace hown:=hown.old hba;have za:B'<=Wa.heap.size:=At z hba.size;clear hY hs z hba;have cb:=uE Wa w.heap.size (q.to k b) sa.at' (At hB sa.turn.size);rw [hcc] at cb;go_wp2_with fail;refine cb.mono ?_;clear cb;rintro e Vb ⟨m,kb,bb,rfl,t,hb⟩;have wfb:=kG m;generalize m.toInt=u at*;have yv:=t.blk ya hYc;replace bx:Blk (Vb.setCell ⟨Y,0,none⟩ (.int .i64 u)) X _ _:=(VU _ _ _ _ (Vf hYX)).trans (t.blk bx hXc);replace o1:=av.setApart (av.turn o1 t.turn hF) yv dcA 0 (.int .i64 u);replace hown:=(Own.turn hown t.turn hF).keepAt (w':=(Vb.setCell ⟨Y,0,none⟩ (.int .i64 u))) fun x hx=>VU _ _ _ _ (hYo x hx);have fy:=yv.free;have cy:Vb.cell? ⟨Y,0,none⟩=some (.int .i64 0):=yv.rule 0;have yb:=yv.set 0 (.int .i64 u);have sb:=(sa.trans t).set (i:=0) hB (At hwB hYB) hYc (.int .i64 u);have zb:B'<=(Vb.setCell ⟨Y,0,none⟩ (.int .i64 u)).heap.size:=(by have:=t.turn.size;simp;omega);clear sa ya za yv t;go_wp2_with fail;obtain ⟨Wb,hW⟩:=Le (Vb.setCell ⟨Y,0,none⟩ (.int .i64 u));rw [<-hW] at bx yb sb zb o1 hown⊢;clear hW fy cy;have cb:=uE Wb w.heap.size (q.to kb bb) sb.at' (At hB sb.turn.size);rw [hcc] at cb;refine cb.mono ?_;clear cb;rintro e Vc ⟨m,kc,bc,rfl,t,hc⟩;have wfc:=kG m;generalize m.toInt=v at*;have yv:=t.blk yb hYc;replace bx:Blk (Vc.setCell ⟨Y,1,none⟩ (.int .i64 v)) X _ _:=(VU _ _ _ _ (Vf hYX)).trans (t.blk bx hXc);replace o1:=av.setApart (av.turn o1 t.turn hF) yv dcA 1 (.int .i64 v);replace hown:=(Own.turn hown t.turn hF).keepAt (w':=(Vc.setCell ⟨Y,1,none⟩ (.int .i64 v))) fun x hx=>VU _ _ _ _ (hYo x hx);have fy:=yv.free;have cy:Vc.cell? ⟨Y,1,none⟩=some (.int .i64 0):=yv.rule 1;have yc:=yv.set 1 (.int .i64 v)
   have sc:=(sb.trans t).set (i:=1) hB (At hwB hYB) hYc (.int .i64 v);have zc:B'<=(Vc.setCell ⟨Y,1,none⟩ (.int .i64 v)).heap.size:=(by have:=t.turn.size;simp;omega);clear sb yb zb yv t;go_upto_region 16 with (fail);obtain ⟨Wc,hW⟩:=Le (Vc.setCell ⟨Y,1,none⟩ (.int .i64 v));rw [<-hW] at bx yc sc zc o1 hown⊢;clear hW fy cy;have fx:=bx.free;have cx5:Wc.cell? ⟨X,5,none⟩=some (.slice a' i c):=bx.rule 5;obtain ⟨gf,hgf⟩:∃x,gk=x+1:=⟨gk-1,oA⟩;have haf6:=haf.out;rw [hgf] at haf6;have HAF:=Hd (show ∀m k' b',bo kc bc (bC (fi q.bs) gf) m k' b'->bo k6 b6 (eS q.bs) ((l++ [⟨u,v⟩])++m) k' b' from fun m k' b' h=>by
    rw [VM];exact haf6 _ _ _ (bo.many (bo.seq hb (bo.seq hc (bo.ret sc.at'.lo))) h))
   clear haf6 haf hb hc;have hA:=hown.alloc (.cells #[.int .i64 u,.int .i64 v] 157);go_wp2_with (first|refine am rfl 157 KQ (.tmp 8) rfl rfl yc rfl ?_|(at_builtin;refine al rfl _ _ 36 rfl wl rfl hA rfl (aw.new' _ _ _ _ rfA) rfA (by intro u hu;simp at hu;rcases hu with rfl|rfl<;>rfl) mxA oA soA ?_))
   intro a6 c6 w6 hown6 hg6;have hal:Below Wc.heap.size Wc (Wc.alloc (.cells #[.int .i64 u,.int .i64 v] 157)):=(AT _ _).alloc (Lt _) _;have hb6:Below B' Wc w6:=hA.grown (hal.mono zc) (Lt _) hg6 soA;have s6:=(sc.alloc hB (.cells #[.int .i64 u,.int .i64 v] 157)).grown hB (hA.lower hwB) hg6 dcA;replace bx:Blk w6 X _ _:=(hb6.block X hXB).trans bx;replace o1:=(av.apart (av.old o1 hal) hA dcA hg6).set ⟨X,5,none⟩ (.slice a6 (i+1) c6) hXB;have z6:B'<=w6.heap.size:=At zc hb6.size;have fx6:=bx.free;have cy6:w6.cell? ⟨X,5,none⟩=some (.slice a' i c):=bx.rule 5;have hown7:=hown6.setCell_lt ⟨X,5,none⟩ (.slice a6 (i+1) c6) hXB;have bx7':=bx.set 5 (.slice a6 (i+1) c6);have s7':=s6.set (i:=5) hB hgX hXc (.slice a6 (i+1) c6);clear cx5 fx hA hal hb6 hg6 yc hown sc zc hown6;go_wp2_with fail;go_roundg gf
   case measure=>omega
   case rel=>
    refine ⟨i+1,kc,bc,a6,c6,l++ [⟨u,v⟩],oA,gnA,by simp [hll],?_,by simpa [bK.cells] using hown7,bx7',o1,by simpa using z6,s7',HAF⟩;intro x hx;rcases VQ.1 hx with hx|hx
    .exact hwf x hx
    .rw [VH.1 hx];exact ⟨wfb,wfc⟩
  .have t0:decide ((i:Int)<(N:Int))=false:=soA;have hg0:gk=0:=oA;have haf6:=haf.out;rw [hg0] at haf6;have haf7:=haf6 [] k b (bo.none hs.at'.lo);rw [Wq] at haf7;have hall:bo 0 (-1) (eI bs) ⟨op,side,place,target,ids,l⟩ k b:=by
    rw [<-HQS.out];exact bo.seq g2 (bo.seq g3 (bo.seq g4 (bo.seq g5 (bo.seq g6 (bo.seq haf7 (bo.ret hs.at'.lo))))))
   replace bx:Blk wr X (ay ⟨op,side,place,target,ids,l⟩ ⟨idsS,⟨a',i,c⟩⟩).toArray 38:=bx;clear haf haf6 haf7;clear g2 g3 g4 g5 g6;have cb:=OO wr w.heap.size (q.to k b) hs.at' (At hB hs.turn.size);rw [hcc,Jk,HQS.out] at cb;have has:∀(ad:Addr) (w:World),(asAddr (.pointer (some ad))).run prog w= .ok ad w:=fun _ _=>rfl;have hwh:=hall.whole;clear hall;generalize JY bs.length k b=E at cb hwh;rcases hwh with ⟨hE,hr⟩|⟨hE,p,rfl,hr⟩
   .have d1:decide (E<0)=true:=(by simpa using hE);rw [d1] at cb;have HR:=Hd (show dP bs=(⟨op,side,place,target,ids,l⟩,0,0) by unfold dP;rw [hr]);clear hr hE;go_wp2_with fail;refine cb.mono ?_;clear cb;rintro e V ⟨rfl,t⟩;have by':=t.blk bx hXc;have hself:=pv by';have hst:=hs.trans t;have ou:aN wr B' ⟨a',i,c⟩ l:=⟨hown,hown.row,hll,hown.le,hown.cap_le,by dsimp only;omega,hwf⟩;have own:bh V B' ⟨op,side,place,target,ids,l⟩ ⟨idsS,⟨a',i,c⟩⟩:=⟨f2,f3,f4,f5,av.turn o1 t.turn hF,aN.turn ou t.turn hF⟩;clear t hs bx o1 hown;go_wp2_with (first|refine am rfl 38 gl (.tmp 2) rfl rfl by' rfl ?_|(refine aa rfl 38 gl (.tmp 2) _ rfl rfl rfl by' rfl rfl rfl ?_;rw [hself]));have cx:(loadVar 38 ⟨X,0,none⟩).run prog V= .ok (bI ⟨op,side,place,target,ids,l⟩ ⟨idsS,⟨a',i,c⟩⟩) V:=dw gl (cs:=ay ⟨op,side,place,target,ids,l⟩ ⟨idsS,⟨a',i,c⟩⟩) (fun j hj=>by rw [VS,by'.rule j];simp [hj]) rfl;refine bodyPost_ret (v:= .tuple #[bI ⟨op,side,place,target,ids,l⟩ ⟨idsS,⟨a',i,c⟩⟩,.int .i64 0,.int .i64 0]) ?_ rfl ?_
    .simp [results,Tryz.results87,has,cx]
    .rw [HR.out];exact ⟨⟨idsS,⟨a',i,c⟩⟩,rfl,own.lower hwB,hst.turn.below (fun x hx=>by subst hx;rw [<-HQC.out];exact hwC) hB⟩
   .have d1:decide ((p:Int)<0)=false:=skA;rw [d1] at cb;have HR:=Hd (show dP bs=(dG,p,180) by unfold dP;rw [hr]);clear hr hE;go_wp2_with fail;refine cb.mono ?_;clear cb;rintro e V ⟨rfl,t⟩;have by':=t.blk bx hXc;have hst:=hs.trans t;clear t hs bx o1 hown;go_upto_region 18 with (fail);have hcd:Blk V C (gB (q.to k (p:Int))) 191:=(by rw [HQC.out];exact hst.at'.blk);refine aj false (aq (fun x=>x=C)) (aq.refl _) (fun _ _ _ h1 h2=>aq.trans h1 h2) (.step 0 (.step 1 (.step 2 (.step 3 (.step 4 (.step 5 (.step 6 (.step 7 .done)))))))) krA krA cdA ?_;have kc:∀W,aq (fun x=>x=C) V.drew W->∀i,W.cell? ⟨C,i,none⟩=(gB (q.to k (p:Int)))[i]? :=fun W hW=>(show Blk W C _ _ from (hW.2 _ rfl).trans hcd).rule;unfold gB DC.to at kc;dsimp only at kc
    repeat (first|refine tsA ?_|refine tqA ?_)
    refine an rfl rfl rfA (fun K hK=> ?_);refine bf (cells:=(ay dG lm).toArray) 38 gl _ _ rfl rfl rfl by'.drew rfl (by first|(show 0+23<=23;omega)|(show 0+6<=6;omega)) rfl ?_;obtain ⟨cs0,hcs0⟩:=Le (cD (ay ⟨op,side,place,target,ids,l⟩ ⟨idsS,⟨a',i,c⟩⟩).toArray 0 (ay dG lm).toArray);rw [<-hcs0];have hx2:Blk (V.drew.setRow X cs0) X cs0 38:=by'.drew.setRow cs0;have hb2:∀x,x≠X->(V.drew.setRow X cs0).heap[x]? =V.heap[x]? :=fun x hx=>WN _ _ _ _ hx;have hbV:Below w.heap.size w V:=hst.turn.below (fun x hx=>by subst hx;rw [<-HQC.out];exact hwC) hB;have hb3:Below w.heap.size w (V.drew.setRow X cs0):=ag hbV.drew hgX _;have hsz:V.heap.size<=(V.drew.setRow X cs0).heap.size:=(by simp [World.setRow]);obtain ⟨w2,hw2⟩:=Le (V.drew.setRow X cs0);rw [<-hw2] at hx2 hb2 hb3 hsz⊢;clear hw2;have hcs:cs0=(ay dG lm).toArray:=(by rw [hcs0];rfl);rw [hcs] at hx2;clear hcs0 hcs;refine hK _ _ ⟨hsz,fun x hx=>hb2 x (by rw [show x=C from hx];exact Vf hXC)⟩ ?_;clear hK K
    repeat (first|refine tsA ?_|refine tqA ?_)
    refine ap ?_;go_wp2_with fail;have cx:(loadVar 38 ⟨X,0,none⟩).run prog w2= .ok (bI dG lm) w2:=dw gl (cs:=ay dG lm) (fun j hj=>by rw [VS,hx2.rule j];simp [hj]) rfl;refine bodyPost_ret (v:= .tuple #[bI dG lm,.int .i64 (p:Int),.int .i64 180]) ?_ rfl ?_
    .simp [results,Tryz.results87,has,cx]
    .rw [HR.out];exact ⟨lm,rfl,Ey _ _,hb3⟩
end
end Go.Proofs.YtioigihakjlopaaGreat

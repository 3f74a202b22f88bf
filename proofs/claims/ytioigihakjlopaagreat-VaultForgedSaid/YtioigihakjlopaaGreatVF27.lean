import Derived.Test.YtioigihakjlopaaGreatVF12
import Derived.Test.YtioigihakjlopaaGreatVF26
import Derived.Deep.CutBlock
namespace Go.Proofs.YtioigihakjlopaaGreat
open Go.Proofs.Tryz
set_option linter.unusedVariables false
set_option linter.unusedSimpArgs false
set_option maxHeartbeats 16000000
set_option maxRecDepth 100000
section
open Go.RowKit
def aP (l:List ao):Nat:=(l.filter fun x=>decide (x.kind=1)).length
def ofG (l:List ao) (g:Int):List ao:=l.filter fun x=>decide (x.game=g)
def dY:Nat->List ao->Int->List Nat
 |_,[],_=> []
 |i,x::l,g=>if x.game=g then i::dY (i+1) l g else dY (i+1) l g
def cR (l:List ao) (g:Int):List Nat:=dY 0 l g
def bp (l:List ao) (x:ao):Bool:=if x.kind=1 then decide (x.game=(aP l:Int)) else decide (0<=x.game)&&decide (x.game<(aP l:Int))
theorem iI (l:List ao) (x:ao):aP (l++ [x])=aP l+(if x.kind=1 then 1 else 0):=by
 unfold aP;rw [List.filter_append,laA];by_cases h:x.kind=1<;>simp [h]
theorem ks:∀(l:List ao) (i:Nat) (x:ao) (g:Int),dY i (l++ [x]) g=dY i l g++(if x.game=g then [i+l.length] else [])
 | [],i,x,g=>by by_cases h:x.game=g<;>simp [dY,h]
 |y::l,i,x,g=>by
  rw [XN,dY,dY,ks l (i+1) x g,VT,show i+1+l.length=i+(l.length+1) by omega];split<;>simp
theorem io (l:List ao) (x:ao) (g:Int):cR (l++ [x]) g=cR l g++(if x.game=g then [l.length] else []):=by
 unfold cR;rw [ks,VS]
theorem rm:∀(l:List ao) (i:Nat) (g:Int),(dY i l g).length=(ofG l g).length
 | [],_,_=>rfl
 |y::l,i,g=>by
  have ih:=rm l (i+1) g;unfold ofG at ih⊢;by_cases h:y.game=g
  .simp [dY,h,ih]
  .simp [dY,h,ih]
theorem gU (l:List ao) (g:Int):(cR l g).length=(ofG l g).length:=rm l 0 g
theorem pY (l:List ao):aP l<=l.length:=List.length_filter_le _ _
theorem Gd (l:List ao) (g:Int):(ofG l g).length<=l.length:=List.length_filter_le _ _
inductive qU:List ao->Prop
 |nil:qU []
 |snoc {l:List ao} {x:ao} (h:qU l) (hm:il x=true) (hf:bp l x=true) (hk:OkD x):qU (l++ [x])
theorem eU {l:List ao} {x:ao} (h:bp l x=true):0<=x.game/\x.game<(aP (l++ [x]):Int)/\(x.kind≠1->x.game<(aP l:Int))/\(x.kind=1->x.game=(aP l:Int)):=by
 unfold bp at h;rw [iI];by_cases hk:x.kind=1
 .rw [if_pos hk] at h;have:=Xz h;refine ⟨oA,by simp [hk];omega,fun hn=>absurd hk hn,fun _=>this⟩
 .rw [if_neg hk] at h;simp only [VN,Vu] at h;refine ⟨h.1,by simp [hk];omega,fun _=>h.2,fun e=>absurd e hk⟩
theorem qU.range {l:List ao} (h:qU l):∀x∈l,0<=x.game/\x.game<(aP l:Int):=by
 induction h with
 |nil=>intro x hx;cases hx
 | @snoc l y h hm hf hk ih=>
  intro x hx;have h1:=eU hf;rcases VQ.1 hx with hx|hx
  .have:=ih x hx;rw [iI];refine ⟨this.1,?_⟩;split<;>omega
  .rw [VH.1 hx];exact ⟨h1.1,h1.2.1⟩
theorem qU.none {l:List ao} (h:qU l) {g:Int} (hg:(aP l:Int)<=g):ofG l g=[]:=by
 unfold ofG;rw [List.filter_eq_nil_iff];intro x hx e;have:=h.range x hx;have:=Xz e;omega
def iG (m:List UInt8) (l:List ao) (x:ao):List UInt8:=be8 x.game++gI m x.game.toNat (ofG l x.game).length (bZ x)
def br (m:List UInt8) (l:List ao) (load:List UInt8):ao×Bool:=
 let c:=be ⟨load,false⟩
 if c.2.bad=true\/c.1<0\/(aP l:Int)<c.1 then (jY,false)
 else if (fl m c.1.toNat (ofG l c.1).length c.2.b).2≠0 then (jY,false)
 else ((fY (fl m c.1.toNat (ofG l c.1).length c.2.b).1).1,decide ((fY (fl m c.1.toNat (ofG l c.1).length c.2.b).1).2=0/\(fY (fl m c.1.toNat (ofG l c.1).length c.2.b).1).1.game=c.1)&&bp l (fY (fl m c.1.toNat (ofG l c.1).length c.2.b).1).1)
def fk (m:List UInt8):List ao->List (List UInt8)->List ao
 |l,[]=>l
 |l,x::r=>if (br m l x).2 then fk m (l++ [(br m l x).1]) r else l
end
section
open Go.RowKit
section
variable {w w':World} {B:Nat} {p:ao} {h:aW}
theorem aX.turn {F:Nat->Prop} (a:aX w B p h) (ht:aJ F w w') (hF:∀x,F x->x<B):aX w' B p h:=
 ⟨a.kind,a.game,a.table,a.fmt,a.n0,a.n1,a.d0.turn ht hF,a.d1.turn ht hF,a.dr.turn ht hF,a.act.turned ht hF⟩
theorem aX.cell1 {g i:Nat} {cs:Array Value} {t:TypeId} (a:aX w B p h) (hB:Blk w g cs t) (h1:t≠3) (h2:t≠157) (v:Value):aX (w.setCell ⟨g,i,none⟩ v) B p h:=
 ⟨a.kind,a.game,a.table,a.fmt,a.n0,a.n1,a.d0.cell1 hB h1 v,a.d1.cell1 hB h1 v,a.dr.cell1 hB h1 v,⟨a.act.op,a.act.side,a.act.place,a.act.target,a.act.ids.cell1 hB h1 v,a.act.pairs.cell1 hB h2 v⟩⟩
theorem aX.row1 {g:Nat} {cs:Array Value} {t:TypeId} (a:aX w B p h) (hB:Blk w g cs t) (h1:t≠3) (h2:t≠157) (cs':Array Value):aX (w.setRow g cs') B p h:=
 ⟨a.kind,a.game,a.table,a.fmt,a.n0,a.n1,a.d0.row1 hB h1 cs',a.d1.row1 hB h1 cs',a.dr.row1 hB h1 cs',⟨a.act.op,a.act.side,a.act.place,a.act.target,a.act.ids.row1 hB h1 cs',a.act.pairs.row1 hB h2 cs'⟩⟩
end
theorem bh.row1 {w:World} {B g:Nat} {p:bq} {h:dt} {cs:Array Value} {t:TypeId} (a:bh w B p h) (hB:Blk w g cs t) (h1:t≠3) (h2:t≠157) (cs':Array Value):bh (w.setRow g cs') B p h:=
 ⟨a.op,a.side,a.place,a.target,a.ids.row1 hB h1 cs',a.pairs.row1 hB h2 cs'⟩
theorem fJ {P:Program} {ops:Array Oper} {rest:List Oper} {o:Oper} {a:Act} {w:World} {Q:Exit->Act->World->Prop} (hw:Region.wanted o (yielded ops a.tmps)=true) (ty:TypeId) {n:Nat} (hT:lR P ty n) (x:Operand) (ho:o.op= .load ty x)
  {g:Nat} (hx:a.eval x= .pointer (some ⟨g,0,none⟩)) {t:TypeId} {cs:Array Value} (hB:Blk w g cs t) (hn:cs.size=n)
  (h:wpList P ops Q rest (a.put o.dst (.agg cs)) w):wpList P ops Q (o::rest) a w:=by
 obtain ⟨⟨d,hu,hd⟩,hi⟩:=hT;unfold wpList;rw [if_pos hw];exact .inl (wp_load_row ty x ho g hx t cs (0,0) d hB hu (by cases d<;>simp_all [GI]) (by rw [hi,hn]) h)
structure RdW (w:World) (X C D:Nat) (p:ao) (h:aW) (s:CS) (W:World):Prop where
 cur:∃a n c,qv W w.heap.size C s a n c
 bX:Blk W X bR 40
 bD:Blk W D (ak p h).toArray 40
 own:aX W (C+1) p h
 below:Below w.heap.size w W
 len:s.b.length<=1048576
section
variable {w W W1:World} {X C D:Nat} {p p':ao} {h h':aW} {s s1:CS} {a:Option Addr} {n c:Nat}
theorem RdW.turn (q:RdW w X C D p h s W) (hC:w.heap.size<=C) (hc:qv W1 w.heap.size C s1 a n c) (ht:aJ (fun x=>x=C) W W1) (hl:s1.b.length<=s.b.length):RdW w X C D p h s1 W1:=by
 obtain ⟨a0,n0,c0,hc0⟩:=q.cur;have e1:X≠C:=q.bX.ne hc0.cur dcA;have e2:D≠C:=q.bD.ne hc0.cur dcA;exact ⟨⟨_,_,_,hc⟩,(ht.block X q.bX.lt e1).trans q.bX,(ht.block D q.bD.lt e2).trans q.bD,q.own.turn ht (fun x hx=>by omega),q.below.trans (ht.below (fun x hx=>by omega) q.below.size),At hl q.len⟩
theorem RdW.put (q:RdW w X C D p h s W) (hD:w.heap.size<=D) (hDX:X≠D) (i:Nat) (v:Value) (e:(ak p h).toArray.setIfInBounds i v=(ak p' h').toArray) (ho:aX (W.setCell ⟨D,i,none⟩ v) (C+1) p' h'):RdW w X C D p' h' s (W.setCell ⟨D,i,none⟩ v):=by
 obtain ⟨a0,n0,c0,hc0⟩:=q.cur;have e2:C≠D:=hc0.cur.ne q.bD dcA;refine ⟨⟨_,_,_,hc0.keep (VU W ⟨D,i,none⟩ C v e2) (Xl (p:=⟨D,i,none⟩) (AT _ _) hD v)⟩,q.bX.other _ _ hDX,?_,ho,Xl (p:=⟨D,i,none⟩) q.below hD v,q.len⟩;rw [<-e];exact q.bD.set i v
end
theorem RdW.old {w W W1:World} {X C D:Nat} {p:ao} {h:aW} {s:CS} (q:RdW w X C D p h s W) (hb:Below W.heap.size W W1):RdW w X C D p h s W1:=by
 obtain ⟨a0,n0,c0,hc0⟩:=q.cur;exact ⟨⟨a0,n0,c0,hc0.keep (hb.block C hc0.cur.lt) (hb.mono q.below.size)⟩,q.bX.old hb,q.bD.old hb,q.own.old hb,ae q.below hb,q.len⟩
theorem RdW.putRow {w W:World} {X C D:Nat} {p p':ao} {h h':aW} {s:CS} (q:RdW w X C D p h s W) (hD:w.heap.size<=D) (hDX:X≠D) (ho:aX (W.setRow D (ak p' h').toArray) (C+1) p' h'):RdW w X C D p' h' s (W.setRow D (ak p' h').toArray):=by
 obtain ⟨a0,n0,c0,hc0⟩:=q.cur;have e2:C≠D:=hc0.cur.ne q.bD dcA;exact ⟨⟨_,_,_,hc0.keep (XC W D C _ e2) (ag (AT _ _) hD _)⟩,q.bX.setRow_other _ _ hDX,q.bD.setRow _,ho,ag q.below hD _,q.len⟩
theorem RdW.done {w W:World} {X C D:Nat} {p:ao} {h:aW} {s:CS} (q:RdW w X C D p h s W) (hC:w.heap.size<=C) (b:Bool):RdW w X C D p h ⟨[],b⟩ ((W.setCell ⟨C,1,none⟩ (.bool b)).setCell ⟨C,0,none⟩ (.slice none 0 0)):=by
 obtain ⟨a0,n0,c0,hc0⟩:=q.cur;have e1:X≠C:=q.bX.ne hc0.cur dcA;have e2:D≠C:=q.bD.ne hc0.cur dcA;have c1:=hc0.cur.set 1 (.bool b);have c2:=c1.set 0 (.slice none 0 0);refine ⟨⟨none,0,0,c2,aw.nil _ _,rfl,Lt _,oA,fun h=>by omega⟩,(q.bX.other _ _ e1).other _ _ e1,(q.bD.other _ _ e2).other _ _ e2,(q.own.cell1 hc0.cur dcA dcA _).cell1 c1 dcA dcA _,Xl (p:=⟨C,0,none⟩) (Xl (p:=⟨C,1,none⟩) q.below hC _) hC _,skA⟩
def jt (w:World) (bs:List UInt8) (e:Ending) (w':World):Prop:=
 ∃h,e= .returned (.tuple #[dR (fY bs).1 h,.int .i64 (fY bs).2])/\aX w' w.heap.size (fY bs).1 h/\Below w.heap.size w w'
def dI:aW:=⟨jR,jR,jR,lm⟩
theorem dV (w:World) (B:Nat):aX w B jY dI:=
 ⟨rfl,rfl,rfl,Vo _,Vo _,Vo _,av.nil _ _,av.nil _ _,av.nil _ _,⟨rfl,rfl,rfl,rfl,av.nil _ _,aN.nil _ _⟩⟩
theorem ah.inB {w:World} {a:Option Addr} {l:List UInt8} {n:Nat} (h:ah w a l) (hl:l.length=n):InB w.heap.size a n:=fun hn ad ha=>by
 obtain ⟨b,o,e,hc⟩:=h 0 (by rw [lmA];omega);rw [ha] at e;cases e;exact VV w _ hc
theorem Lz {w:World} {C g o:Nat} {x:Option Addr} {n c:Nat} {bd:Bool} {k:IntKind} {v:Int} (hC:Blk w C (LC x n c bd) 142) (h:w.cell? ⟨g,o,none⟩=some (.int k v)):g≠C:=by
 rintro rfl;rw [hC.rule] at h;have hlt:o<2:=(VK.1 h).1;have:o=0\/o=1:=oA;rcases this with e|e<;>rw [e] at h<;>simp [LC] at h
def jx (k g:Int):ao:=⟨k,g,0,emN,emN,emN,[],[],[],dG⟩
def RdAt (w:World) (X C:Nat) (p:ao) (s:CS) (v:Value) (W:World):Prop:=∃(D:Nat) (h:aW),v= .pointer (some ⟨D,0,none⟩)/\w.heap.size<=D/\X≠D/\RdW w X C D p h s W
theorem sd (y:UInt8):wf8 (kW y):=by
 have h2:∀n:Fin 256,wf8 (IntKind.i8.wrap ((n.val:Nat):Int)):=(by unfold wf8;decide+kernel);exact h2 ⟨y.toNat,y.toNat_lt⟩
theorem mW (p:ao) (h:aW):cD bR 0 (ak p h).toArray=(ak p h).toArray:=rfl
theorem xP {w W:World} {X C D:Nat} {s:CS} {a:Option Addr} {n c:Nat} {k g:Int} (hc:qv W w.heap.size C s a n c) (bX:Blk W X bR 40) (bD:Blk W D bR 40) (hb:Below w.heap.size w W) (hD:w.heap.size<=D) (hXD:X≠D) (hk:wf8 k) (hg:eO g) (hl:s.b.length<=1048576):
  RdAt w X C (jx k g) s (.pointer (some ⟨D,0,none⟩)) (W.setRow D (cD bR 0 (ak (jx k g) dI).toArray)):=by
 rw [mW];have e:C≠D:=hc.cur.ne bD dcA;exact ⟨D,dI,rfl,hD,hXD,⟨⟨a,n,c,hc.keep (XC W D C _ e) (ag (AT _ _) hD _)⟩,bX.setRow_other _ _ hXD,bD.setRow _,⟨hk,hg,rfl,Vo _,Vo _,Vo _,av.nil _ _,av.nil _ _,av.nil _ _,⟨rfl,rfl,rfl,rfl,av.nil _ _,aN.nil _ _⟩⟩,ag hb hD _,hl⟩⟩
theorem qv.old {w w':World} {B C:Nat} {s:CS} {a:Option Addr} {n c:Nat} (h:qv w B C s a n c) (hb:Below w.heap.size w w') (hB:B<=w.heap.size):qv w' B C s a n c:=h.keep (hb.block C h.cur.lt) (hb.mono hB)
theorem pk (s:CS):(gw s).2.b.length<=s.b.length:=At (tV _ _) (fK s)
theorem uD:∀(k:Nat) (s:CS),(fm k s).2.b.length<=s.b.length
 |0,s=>Lt _
 |k+1,s=>At (uD k _) (fK s)
theorem pU (s:CS):(gx s).2.b.length<=s.b.length:=by
 unfold gx;split
 .exact fK s
 .exact At (uD _ _) (fK s)
theorem vI (s:CS) (h:s.b.length<=1048576):qJ (dy (gw s).1):=by
 unfold qJ;rw [mU];have h1:=fK s;unfold gw dM;split
 .simp
 .dsimp only;rw [ltA];omega
def qo (p:ao) (s:CS):ao×CS:=({p with dr:=(gx s).1},(gx s).2)
def qm (p:ao) (s:CS):ao×CS:=qo {p with d1:=(gx s).1} (gx s).2
def nL (p:ao) (s:CS):ao×CS:=qm {p with d0:=(gx s).1} (gx s).2
def pR (p:ao) (s:CS):ao×CS:=nL {p with n1:=dy (gw s).1} (gw s).2
def pQ (p:ao) (s:CS):ao×CS:=pR {p with n0:=dy (gw s).1} (gw s).2
def Gy:Nat->ao->CS->ao×CS
 |0=>qo
 |1=>qm
 |_=>nL
def La:Nat->ao->CS->ao×CS
 |0=>nL
 |1=>pR
 |_=>pQ
def Lq (p:ao) (s:CS):ao×CS:=pQ {p with fmt:=dy (gw s).1} (gw s).2
def xF (p:ao) (s:CS):ao×CS:=Lq {p with table:=(be s).1} (be s).2
theorem vi (s:CS):gZ s=xF (jx 1 (be s).1) (be s).2:=by
 simp only [gZ,mk2,sU,yF,sqC,xF,Lq,pQ,pR,nL,qm,qo,jx]
def RdN (w:World) (X C D:Nat) (T:ao×CS) (f:Nat) (i:Value) (W:World):Prop:=∃(k:Nat) (p:ao) (h:aW) (s:CS),k+f=2/\i= .int .i64 (k:Int)/\RdW w X C D p h s W/\Hid (T=La f p s)
def RdK (w:World) (X C D:Nat) (T:ao×CS) (f:Nat) (i:Value) (W:World):Prop:=∃(k:Nat) (p:ao) (h:aW) (s:CS),k+f=2/\i= .int .i64 (k:Int)/\RdW w X C D p h s W/\Hid (T=Gy f p s)
def RdE (w:World) (X C D:Nat) (T:ao×CS) (W:World):Prop:=∃h:aW,RdW w X C D T.1 h T.2 W
theorem AH (w:World) (a:Option Addr) (n cap:Nat) (bs:List UInt8) (hb:ah w a bs) (hn:bs.length=n) (hm:n<=1048576) (hc:n<=cap):
  Calls prog 30 #[.slice a n cap] w (jt w bs):=by
 go_enter func30,ntmps30;go_upto_region 2 with (fail);obtain ⟨X,hX⟩:=Le w.heap.size;rw [<-hX];refine af (fun W=>Blk W X bR 40/\qv W w.heap.size (X+1) ⟨bs,false⟩ a n cap/\Below w.heap.size w W) ⟨by subst hX;exact Blk.new2 w _ _ _,?_,by subst hX;exact cL⟩ ?_
 .exact ⟨by subst hX;exact Blk.new2' w _ _ _,(hb.alloc _).alloc _,hn,hc,oA,hb.inB hn⟩
 rintro W1 ⟨bX,hcur,hbw⟩;have hXw:w.heap.size<=X:=VR hX.symm;clear hX;obtain ⟨C,hC⟩:=Le (X+1);rw [<-hC] at hcur⊢;have hXC:X≠C:=oA;have hCw:w.heap.size<=C:=oA;clear hC;go_wp2_with fail;refine (oZ w.heap.size C _ a n cap 1 _ hcur).mono ?_;rintro e W2 ⟨a1,k1,a2,n2,c2,rfl,hk1,hr1,hc2,ht2⟩;have bX2:Blk W2 X bR 40:=(ht2.block X bX.lt hXC).trans bX;have hbw2:Below w.heap.size w W2:=hbw.trans (ht2.below (fun x hx=>by omega) hbw.size);clear hcur ht2 bX hbw;have cb:W2.cell? ⟨C,1,none⟩=some (.bool (dM 1 ⟨bs,false⟩).2.bad):=hc2.cur.cell rfl
 match bs,hn with
 | [],hn=>
  have e1:(dM 1 ⟨[],false⟩).2.bad=true:=rfl;rw [e1] at cb;go_wp2_with (refine aa rfl 40 aZ (.tmp 2) _ rfl rfl rfl bX2 rfl rfl rfA ?_);exact aU rfl aZ rfl (bX2.setRow _) rfl rfl rfl ⟨dI,rfl,dV _ _,ag hbw2 hXw _⟩
 |y::r,hn=>
  have e1:dM 1 ⟨y::r,false⟩=([y],⟨r,false⟩):=by
   unfold dM;rw [if_neg (by simp only [VT];omega)];rfl
  rw [e1] at cb hc2 hr1 hk1;dsimp only at cb hc2 hr1 hk1;obtain ⟨kd,hkd⟩:=Le (kW y);have hkw:IntKind.i8.wrap (U8 y)=kd:=hkd.symm;have HKD:=Hd hkd;clear hkd e1;obtain ⟨bk,ok,rfl,hrk⟩:=hr1.at skA;have hrk0:=hrk 0 skA;obtain rfl:k1=1:=(by simpa using hk1.symm);simp only [Nat.add_zero,List.getElem_cons_zero] at hrk0;have hb5:Below W2.heap.size W2 W2:=AT _ _;go_upto_region 5 with fail;have hne:bk≠C:=Lz hc2.cur hrk0;have hbkl:=VV W2 _ hrk0;have hCl:=hc2.cur.lt;have hXl:=bX2.lt;have hl1:(be ⟨r,false⟩).2.b.length<=1048576:=by
   have h1:=fK ⟨r,false⟩;simp only [VT] at hn;dsimp only at h1;omega
  go_cut [6] (fun v6 wx=>RdAt w X C (jx kd (be ⟨r,false⟩).1) (be ⟨r,false⟩).2 v6 wx)
  case first=>
   have k0:∀W,aq (fun x=>x=bk) W2.drew W->W.cell? ⟨bk,ok,none⟩=some (.int .u8 (U8 y)):=fun W hW=>(VJ (a:=⟨bk,ok,none⟩) (hW.2 bk rfl)).trans hrk0;refine aj false (aq (fun x=>x=bk)) (aq.refl _) (fun _ _ _ h1 h2=>aq.trans h1 h2) (.step 0 (.step 1 (.step 2 (.step 3 (.step 4 (.fork [(5,(.step 6 (.step 7 (.step 8 .done)))),(7,(.step 5 (.step 6 (.step 8 .done))))])))))) krA krA cdA ?_
   repeat (first|refine tsA ?_|refine tqA ?_)
   refine kh ?_;refine iS rfl rfA (fun K hK=> ?_) ?_
   .go_wp2_with fail;refine (fN w.heap.size C _ a2 n2 c2 _ (hc2.keep (w':=W2.drew) rfl (AT _ _).drew)).mono ?_;rintro e W3 ⟨a3,n3,c3,rfl,hc3,ht3⟩;have ht3':aJ (fun x=>x=C) W2 W3:=⟨ht3.os,ht3.tape,ht3.output,ht3.size,ht3.block⟩;go_wp2_with fail;refine hK _ _ ⟨ht3.size,fun x hx=>by subst hx;exact ht3.block x hbkl hne⟩ ?_;clear hK K
    repeat (first|refine tsA ?_|refine tqA ?_)
    refine an rfl rfl rfA (fun K hK=> ?_);go_wp2_with fail;have hw3:w.heap.size<=W3.heap.size:=At hbw2.size ht3.size;refine hK _ _ (aq.below ((AT _ W3).alloc (Lt _) _) fun x hx=>by subst hx;exact VF hbkl ht3.size) ?_;clear hK K;refine an rfl rfl rfA (fun K hK=> ?_);refine bf 40 aZ _ _ rfl rfl rfl (Blk.new _ _ _) rfl (Lt _) rfA ?_;have bX3:Blk W3 X bR 40:=(ht3'.block X hXl hXC).trans bX2;have hX3:X≠W3.heap.size:=(by have:=bX3.lt;omega);have hfin:=xP (k:=kd) (g:=(be ⟨r,false⟩).1) ((hc3.old ((AT _ W3).alloc (Lt _) (.cells bR 40)) hw3)) (bX3.alloc _) (Blk.new W3 bR 40) (((hbw2.trans (ht3'.below (fun x hx=>by omega) hbw2.size)).alloc hw3 (.cells bR 40))) hw3 hX3 (by rw [HKD.out];exact sd y) (jd _) hl1;refine hK _ _ ?_ ?_
    .exact aq.below (ag (AT W3.heap.size _) (Lt _) _) fun x hx=>by subst hx;exact VF hbkl ht3.size
    clear hK K;refine ap ?_;go_wp2_with fail;go_meet;exact hfin
   .refine iS rfl rfA (fun K hK=> ?_) ?_
    .go_wp2_with fail;have hbA:Below W2.heap.size W2 (W2.alloc (.cells bR 40)).drew:=((AT _ W2).alloc (Lt _) (.cells bR 40)).drew;refine hK _ _ (aq.below (kB hbA) fun x hx=>by subst hx;exact hbkl) ?_;clear hK K;refine an rfl rfl rfA (fun K hK=> ?_);go_wp2_with fail;have hcA:=hc2.old hbA hbw2.size;have hzA:W2.heap.size<(W2.alloc (.cells bR 40)).drew.heap.size:=skA;refine (fN w.heap.size C _ a2 n2 c2 _ hcA).mono ?_;rintro e W3 ⟨a3,n3,c3,rfl,hc3,ht3⟩;have hCD:C≠W2.heap.size:=oA;have bD3:Blk W3 W2.heap.size bR 40:=(ht3.block W2.heap.size hzA (fun e=>hCD e.symm)).trans (Blk.new W2 bR 40).drew;have bX3:Blk W3 X bR 40:=(ht3.block X (Nat.lt_trans hXl hzA) hXC).trans (bX2.alloc _).drew;have hb3:Below w.heap.size w W3:=(hbw2.trans (hbA.mono hbw2.size)).trans (ht3.below (fun x hx=>by omega) (by have:=hbw2.size;omega));go_wp2_with fail;refine hK _ _ ⟨ht3.size,fun x hx=>by subst hx;exact ht3.block x (Nat.lt_trans hbkl hzA) hne⟩ ?_;clear hK K
     repeat (first|refine tsA ?_|refine tqA ?_)
     refine an rfl rfl rfA (fun K hK=> ?_);refine bf 40 aZ _ _ rfl rfl rfl bD3 rfl (Lt _) rfA ?_;have hfin:=xP (k:=kd) (g:=(be ⟨r,false⟩).1) hc3 bX3 bD3 hb3 hbw2.size oA (by rw [HKD.out];exact sd y) (jd _) hl1;refine hK _ _ ?_ ?_
     .exact ⟨by simp [World.setRow],fun x hx=>by subst hx;exact XC W3 _ x _ oA⟩
     clear hK K;refine ap ?_;go_wp2_with fail;go_meet;exact hfin
    .exact lX
  case rest=>
   obtain ⟨D,h0,rfl,hD,hXD,q⟩:=hcut;have HR:=Hd (show fY (y::r)=uW (sG kd ⟨r,false⟩) by rw [HKD.out];rfl);obtain ⟨T,hT⟩:=Le (sG kd ⟨r,false⟩);rw [<-hT] at HR;have HT:=Hd hT;clear hT hn hb hc2 cb bX2 hbw2 hrk hr1 hrk0 hk1 hb5 hne hbkl hCl hXl hkw hl1;have ck:wc.cell? ⟨D,0,none⟩=some (.int .i8 kd):=q.bD.cell rfl;go_upto_block 0 with (fail);go_cut [9] (fun _ wx=>RdE w X C D T wx)
   case first=>
    by_cases hk1:kd=1
    .subst hk1;have hT:=HT.out;rw [show sG 1 ⟨r,false⟩=gZ ⟨r,false⟩ from rfl,vi] at hT;unfold xF at hT;generalize (be ⟨r,false⟩).1=g at*;generalize (be ⟨r,false⟩).2=s1 at*;have HT1:=Hd hT;clear hT HT HKD;obtain ⟨a0,n0,c0,hc0⟩:=q.cur;go_wp2_with fail;refine (fN w.heap.size C s1 a0 n0 c0 _ hc0).mono ?_;rintro e W1 ⟨a1,n1,c1,rfl,hc1,ht1⟩;have q1:=q.turn hCw hc1 ht1 (fK s1);have f1:=q1.bD.free;have l1:W1.cell? ⟨D,2,none⟩=some (.int .i64 0):=q1.bD.cell rfl;have hwf:=jd s1;generalize (be s1).1=t at*;generalize (be s1).2=s2 at*;clear q hc0 hc1 ht1 ck;go_upto_region 9 with fail;refine af (fun W=>RdW w X C D {jx 1 g with table:=t} h0 s2 W) (q1.put hD hXD 2 _ rfl ?_) ?_
     .have:=q1.own.cell1 (i:=2) q1.bD dcA dcA (.int .i64 t);exact ⟨this.kind,this.game,hwf,this.fmt,this.n0,this.n1,this.d0,this.d1,this.dr,this.act⟩
     clear q1 f1 l1;intro W2 q;obtain ⟨a0,n0,c0,hc0⟩:=q.cur;go_wp2_with fail;refine (oY w.heap.size C s2 a0 n0 c0 _ hc0).mono ?_;rintro e W1 ⟨a1,n1,c1,rfl,hc1,ht1⟩;have q1:=q.turn hCw hc1 ht1 (pk s2);have f1:=q1.bD.free;have l1:W1.cell? ⟨D,3,none⟩=some (.string emN):=q1.bD.cell rfl;have hz:=vI s2 q.len;have hT:=HT1.out;unfold Lq at hT;generalize dy (gw s2).1=f at*;generalize (gw s2).2=s3 at*;have HT2:=Hd hT;clear hT HT1 q hc0 hc1 ht1;go_upto_region 10 with fail;refine af (fun W=>RdN w X C D T 2 (.int .i64 0) W) ⟨0,_,h0,s3,rfl,rfl,q1.put hD hXD 3 _ rfl ?_,Hd HT2.out⟩ ?_
     .have:=q1.own.cell1 (i:=3) q1.bD dcA dcA (.string f);exact ⟨this.kind,this.game,this.table,hz,this.n0,this.n1,this.d0,this.d1,this.dr,this.act⟩
     clear q1 f1 l1 HT2 hz hwf;intro W3 hst;go_wp2_with fail;go_loopg [7,37,38,39,40,41,42,43,44,45] 2 (fun f _ i _ _ _ _ _ _ _ _ wr=>RdN w X C D T f i wr)
     case atStart=>exact hst
     case round=>
      clear hst;obtain ⟨k,p,h,s,hf,rfl,q,hR⟩:=hrel;have HF:=Hd hf;clear hf;by_cases hk:k<2
      .have h3:k=0\/k=1:=oA;rcases h3 with rfl|rfl
       .obtain ⟨a0,n0,c0,hc0⟩:=q.cur;have hR2:Hid (T=pQ p s):=by
         have e:gk=2:=(by have:=HF.out;omega);have h:=hR.out;rw [e] at h;exact Hd h
        clear hR;go_wp2_with fail;refine (oY w.heap.size C s a0 n0 c0 _ hc0).mono ?_;rintro e W1 ⟨a1,n1,c1,rfl,hc1,ht1⟩;have q1:=q.turn hCw hc1 ht1 (pk s);have f1:=q1.bD.free;have l1:W1.cell? ⟨D,4,none⟩=some (.string p.n0):=q1.bD.cell rfl;have hz:=vI s q.len;have hT:=hR2.out;unfold pQ at hT;generalize dy (gw s).1=x at*;generalize (gw s).2=s' at*;have HT2:=Hd hT;clear hT hR2 q hc0 hc1 ht1;go_wp2_with fail;go_roundg 1
        case measure=>have:=HF.out;omega
        case rel=>
         refine ⟨0+1,{p with n0:=x},h,s',oA,gnA,q1.put hD hXD 4 _ rfl ?_,Hd HT2.out⟩;have:=q1.own.cell1 (i:=4) q1.bD dcA dcA (.string x);exact ⟨this.kind,this.game,this.table,this.fmt,by first|exact hz|exact this.n0,by first|exact hz|exact this.n1,this.d0,this.d1,this.dr,this.act⟩
       .obtain ⟨a0,n0,c0,hc0⟩:=q.cur;have hR2:Hid (T=pR p s):=by
         have e:gk=1:=(by have:=HF.out;omega);have h:=hR.out;rw [e] at h;exact Hd h
        clear hR;go_wp2_with fail;refine (oY w.heap.size C s a0 n0 c0 _ hc0).mono ?_;rintro e W1 ⟨a1,n1,c1,rfl,hc1,ht1⟩;have q1:=q.turn hCw hc1 ht1 (pk s);have f1:=q1.bD.free;have l1:W1.cell? ⟨D,5,none⟩=some (.string p.n1):=q1.bD.cell rfl;have hz:=vI s q.len;have hT:=hR2.out;unfold pR at hT;generalize dy (gw s).1=x at*;generalize (gw s).2=s' at*;have HT2:=Hd hT;clear hT hR2 q hc0 hc1 ht1;go_wp2_with fail;go_roundg 0
        case measure=>have:=HF.out;omega
        case rel=>
         refine ⟨1+1,{p with n1:=x},h,s',oA,gnA,q1.put hD hXD 5 _ rfl ?_,Hd HT2.out⟩;have:=q1.own.cell1 (i:=5) q1.bD dcA dcA (.string x);exact ⟨this.kind,this.game,this.table,this.fmt,by first|exact hz|exact this.n0,by first|exact hz|exact this.n1,this.d0,this.d1,this.dr,this.act⟩
      .obtain rfl:k=2:=(by have:=HF.out;omega);have hR3:Hid (T=Gy 2 p s):=by
        have e:gk=0:=(by have:=HF.out;omega);have h:=hR.out;rw [e] at h;exact Hd h
       clear hR;have hst:RdK w X C D T 2 (.int .i64 0) wr:=⟨0,p,h,s,rfl,rfl,q,hR3⟩;clear q hR3;go_wp2_with fail;go_loopg [8,46,47,48,49,50,51,52,53,54] 2 (fun f _ i _ _ _ _ _ _ _ _ wr=>RdK w X C D T f i wr)
       case atStart=>exact hst
       case round=>
        clear hst;obtain ⟨k,p,h,s,hf,rfl,q,hR⟩:=hrel;have HF:=Hd hf;clear hf;by_cases hk:k<2
        .have h3:k=0\/k=1:=oA;rcases h3 with rfl|rfl
         .obtain ⟨a0,n0,c0,hc0⟩:=q.cur;have hR2:Hid (T=nL p s):=by
           have e:gk=2:=(by have:=HF.out;omega);have h:=hR.out;rw [e] at h;exact Hd h
          clear hR;have hsz:n0<=1000000000:=(by have:=hc0.hl;have:=q.len;omega);have cb:=pd w.heap.size C s a0 n0 c0 _ hc0 q.below.size hCw hsz;have hCl:=hc0.cur.lt;clear hsz;go_wp2_with fail;refine cb.mono ?_;clear cb;rintro e W1 ⟨⟨xa,xn,xc⟩,a1,n1,c1,rfl,ho1,hc1,ht1⟩;have q1:=q.turn hCw hc1 ht1 (pU s);have f1:=q1.bD.free;have l1:W1.cell? ⟨D,6,none⟩=some (.slice h.d0.a h.d0.n h.d0.c):=q1.bD.cell rfl;have hT:=hR2.out;unfold nL at hT;replace ho1:=(ho1.lower (B':=C+1) hCl).cell1 (i:=6) q1.bD dcA (.slice xa xn xc);generalize (gx s).1=x at*;generalize (gx s).2=s' at*;have HT2:=Hd hT;clear hT hR2 q hc0 hc1 ht1 hCl;go_wp2_with fail;go_roundg 1
          case measure=>have:=HF.out;omega
          case rel=>
           refine ⟨0+1,{p with d0:=x},{h with d0:=⟨xa,xn,xc⟩},s',oA,gnA,q1.put hD hXD 6 _ rfl ?_,Hd HT2.out⟩;have:=q1.own.cell1 (i:=6) q1.bD dcA dcA (.slice xa xn xc);exact ⟨this.kind,this.game,this.table,this.fmt,this.n0,this.n1,by first|exact ho1|exact this.d0,by first|exact ho1|exact this.d1,this.dr,this.act⟩
         .obtain ⟨a0,n0,c0,hc0⟩:=q.cur;have hR2:Hid (T=qm p s):=by
           have e:gk=1:=(by have:=HF.out;omega);have h:=hR.out;rw [e] at h;exact Hd h
          clear hR;have hsz:n0<=1000000000:=(by have:=hc0.hl;have:=q.len;omega);have cb:=pd w.heap.size C s a0 n0 c0 _ hc0 q.below.size hCw hsz;have hCl:=hc0.cur.lt;clear hsz;go_wp2_with fail;refine cb.mono ?_;clear cb;rintro e W1 ⟨⟨xa,xn,xc⟩,a1,n1,c1,rfl,ho1,hc1,ht1⟩;have q1:=q.turn hCw hc1 ht1 (pU s);have f1:=q1.bD.free;have l1:W1.cell? ⟨D,7,none⟩=some (.slice h.d1.a h.d1.n h.d1.c):=q1.bD.cell rfl;have hT:=hR2.out;unfold qm at hT;replace ho1:=(ho1.lower (B':=C+1) hCl).cell1 (i:=7) q1.bD dcA (.slice xa xn xc);generalize (gx s).1=x at*;generalize (gx s).2=s' at*;have HT2:=Hd hT;clear hT hR2 q hc0 hc1 ht1 hCl;go_wp2_with fail;go_roundg 0
          case measure=>have:=HF.out;omega
          case rel=>
           refine ⟨1+1,{p with d1:=x},{h with d1:=⟨xa,xn,xc⟩},s',oA,gnA,q1.put hD hXD 7 _ rfl ?_,Hd HT2.out⟩;have:=q1.own.cell1 (i:=7) q1.bD dcA dcA (.slice xa xn xc);exact ⟨this.kind,this.game,this.table,this.fmt,this.n0,this.n1,by first|exact ho1|exact this.d0,by first|exact ho1|exact this.d1,this.dr,this.act⟩
        .obtain rfl:k=2:=(by have:=HF.out;omega);obtain ⟨a0,n0,c0,hc0⟩:=q.cur;have hR2:Hid (T=qo p s):=by
          have e:gk=0:=(by have:=HF.out;omega);have h:=hR.out;rw [e] at h;exact Hd h
         clear hR;have hsz:n0<=1000000000:=(by have:=hc0.hl;have:=q.len;omega);have cb:=pd w.heap.size C s a0 n0 c0 _ hc0 q.below.size hCw hsz;have hCl:=hc0.cur.lt;clear hsz;go_wp2_with fail;refine cb.mono ?_;clear cb;rintro e W1 ⟨⟨xa,xn,xc⟩,a1,n1,c1,rfl,ho1,hc1,ht1⟩;have q1:=q.turn hCw hc1 ht1 (pU s);have f1:=q1.bD.free;have l1:W1.cell? ⟨D,8,none⟩=some (.slice h.dr.a h.dr.n h.dr.c):=q1.bD.cell rfl;have hT:=hR2.out;unfold qo at hT;replace ho1:=(ho1.lower (B':=C+1) hCl).cell1 (i:=8) q1.bD dcA (.slice xa xn xc);generalize (gx s).1=x at*;generalize (gx s).2=s' at*;have HT2:=Hd hT;clear hT hR2 q hc0 hc1 ht1 hCl;go_wp2_with fail;go_meet;rw [HT2.out];refine ⟨{h with dr:=⟨xa,xn,xc⟩},q1.put hD hXD 8 _ rfl ?_⟩;have:=q1.own.cell1 (i:=8) q1.bD dcA dcA (.slice xa xn xc);exact ⟨this.kind,this.game,this.table,this.fmt,this.n0,this.n1,this.d0,this.d1,ho1,this.act⟩
    .by_cases hk2:kd=2
     .subst hk2;have hT:=HT.out;rw [show sG 2 ⟨r,false⟩=GL ⟨r,false⟩ from rfl] at hT;unfold GL at hT;generalize (be ⟨r,false⟩).1=g at*;generalize (be ⟨r,false⟩).2=s1 at*;obtain ⟨a0,n0,c0,hc0⟩:=q.cur;have c0':wc.cell? ⟨C,0,none⟩=some (.slice a0 n0 c0):=hc0.cur.cell rfl;have cb:=vY wc a0 n0 c0 s1.b hc0.read hc0.hl (by rw [<-hc0.hl];exact q.len);generalize (dP s1.b).1=pa at*;generalize (dP s1.b).2.1=ka at*;generalize (dP s1.b).2.2=er at*;have HT1:=Hd hT;have hCl:=hc0.cur.lt;clear hT HT HKD;go_wp2_with fail;refine cb.mono ?_;clear cb;rintro e W1 ⟨ha,rfl,ho1,hb1⟩;have q1:=q.old hb1;replace ho1:=(ho1.lower (B':=C+1) hCl);clear q hc0 hb1 c0' ck;rw [ed];have hbD:=q1.bD;go_upto_region 24 with (refine eP rfl 38 GK (.tmp 69) _ rfl rfl rfl hbD rfl (Lt 15) rfA ?_);rw [show cD (ak (jx 2 g) h0).toArray 9 (ay pa ha).toArray=(ak {jx 2 g with act:=pa} {h0 with act:=ha}).toArray from rfl];refine af (fun W=>RdW w X C D {jx 2 g with act:=pa} {h0 with act:=ha} s1 W) (q1.putRow hD hXD ?_) ?_
      .have this:=q1.own.row1 hbD dcA dcA (ak {jx 2 g with act:=pa} {h0 with act:=ha}).toArray;exact ⟨this.kind,this.game,this.table,this.fmt,this.n0,this.n1,this.d0,this.d1,this.dr,ho1.row1 hbD dcA dcA _⟩
      clear q1 ho1 hbD;intro W2 q;obtain ⟨a0,n0,c0,hc0⟩:=q.cur;have l0:W2.cell? ⟨C,0,none⟩=some (.slice a0 n0 c0):=hc0.cur.cell rfl;have l1:W2.cell? ⟨C,1,none⟩=some (.bool s1.bad):=hc0.cur.cell rfl;have f0:=hc0.cur.free;have fin:∀b,(s1.bad||decide (er≠0))=b->RdE w X C D T ((W2.setCell ⟨C,1,none⟩ (.bool b)).setCell ⟨C,0,none⟩ (.slice none 0 0)):=fun b hb=>by
       rw [HT1.out];unfold RdE;dsimp only;rw [hb];exact ⟨_,q.done hCw b⟩
      cases hs:s1.bad with
      |true=>
       rw [hs] at l1;have fin:=Hd (fin true (by rw [hs];rfl));clear hc0 q;go_wp2_with fail;go_meet;exact fin.out
      |false=>
       rw [hs] at l1;by_cases her:er=0
       .subst her;have fin:=Hd (fin false (by rw [hs];rfl));clear hc0 q;go_wp2_with fail;go_meet;exact fin.out
       .have fin:=Hd (fin true (by rw [hs];simpa using her));have e2:(er !=0)=true:=(by simpa using her);clear hc0 q;go_wp2_with fail;go_meet
        first
         |exact fin.out
         |(rw [e2];exact fin.out)
     .have hT:=HT.out;unfold sG at hT;rw [if_neg hk1,if_neg hk2] at hT;have fin:Hid (RdE w X C D T wc):=by
       rw [hT];exact Hd ⟨h0,q⟩
      clear q hT;go_wp2_with fail;go_meet;exact fin.out
   case rest=>
    obtain ⟨p,s⟩:=T;obtain ⟨h,q⟩:=hcut;dsimp only at q;clear HT HKD ck;obtain ⟨a0,n0,c0,hc0⟩:=q.cur;have l0:wc.cell? ⟨C,0,none⟩=some (.slice a0 n0 c0):=hc0.cur.cell rfl;have l1:wc.cell? ⟨C,1,none⟩=some (.bool s.bad):=hc0.cur.cell rfl;have hl:=Hd hc0.hl;have bX:=q.bX;have bD:=q.bD;have hbw:=q.below;have hown:=q.own;clear hc0 q;have bad:(s.bad=true\/0<n0\/il p=false)->fY (y::r)=(jY,2):=fun e=>by
     rw [HR.out];unfold uW;dsimp only;rw [if_pos (by rw [hl.out];exact e)]
    have good:¬(s.bad=true\/0<n0\/il p=false)->fY (y::r)=(p,0):=fun e=>by
     rw [HR.out];unfold uW;dsimp only;rw [if_neg (by rw [hl.out];exact e)]
    have HB:=Hd bad;have HG:=Hd good;clear bad good;cases hs:s.bad with
    |true=>
     rw [hs] at l1;have hr:=HB.out (.inl hs);go_wp2_with (refine aa rfl 40 aZ (.tmp 2) _ rfl rfl rfl bX rfl rfl rfA ?_);refine aU rfl aZ rfl (bX.setRow _) rfl rfl rfl ?_;unfold jt;rw [hr];exact ⟨dI,rfl,dV _ _,ag hbw hXw _⟩
    |false=>
     rw [hs] at l1;by_cases hn0:0<n0
     .have hr:=HB.out (.inr (.inl hn0));have t1:decide ((0:Int)<(n0:Int))=true:=(by simpa using hn0);go_wp2_with (refine aa rfl 40 aZ (.tmp 2) _ rfl rfl rfl bX rfl rfl rfA ?_);refine aU rfl aZ rfl (bX.setRow _) rfl rfl rfl ?_;unfold jt;rw [hr];exact ⟨dI,rfl,dV _ _,ag hbw hXw _⟩
     .obtain rfl:n0=0:=oA;have cb:=xA p h wc ((hown.lower (At hCw (XB C))).at);rw [aH] at cb;go_wp2_with (refine fJ rfA 40 aZ (.tmp 6) rfl rfl bD rfl ?_);refine cb.mono ?_;clear cb;rintro e W3 ⟨rfl,hb3⟩;have bX3:=bX.old hb3;have bD3:=bD.old hb3;have hbw3:=ae hbw hb3;cases hmay:il p with
      |false=>
       have hr:=HB.out (.inr (.inr hmay));go_wp2_with (refine aa rfl 40 aZ (.tmp 2) _ rfl rfl rfl bX3 rfl rfl rfA ?_);refine aU rfl aZ rfl (bX3.setRow _) rfl rfl rfl ?_;unfold jt;rw [hr];exact ⟨dI,rfl,dV _ _,ag hbw3 hXw _⟩
      |true=>
       have hr:=HG.out (by rw [hs,hmay];simp);go_wp2_with (first|refine am rfl 40 aZ (.tmp 6) rfl rfl bD3 rfl ?_|refine aa rfl 40 aZ (.tmp 2) _ rfl rfl rfl bX3 rfl rfl rfA ?_);refine aU rfl aZ rfl (bX3.setRow _) rfl rfl rfl ?_;unfold jt;rw [hr];exact ⟨h,rfl,((hown.old hb3).row1 bX3 dcA dcA _).lower (At hCw (XB C)),ag hbw3 hXw _⟩
end
end Go.Proofs.YtioigihakjlopaaGreat

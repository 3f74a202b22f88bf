import Derived.Test.YtioigihakjlopaaGreatVF08
import Derived.Laws.IdiomStrings
import Derived.Lib.AppendStr
namespace Go.Proofs.YtioigihakjlopaaGreat
open Go.Proofs.Tryz
set_option linter.unusedVariables false
set_option linter.unusedSimpArgs false
set_option maxHeartbeats 16000000
set_option maxRecDepth 100000
section
open Go.RowKit
def Fz (n:Int) (j:Nat):UInt8:=⟨((BitVec.ofInt 64 n)>>>(56-8*j)).setWidth 8⟩
def Ve1 (w:World) (H:Nat) (n:Int) (f:Nat) (i:Value) (wr:World):Prop:=
 ∃t:Nat,f+t=8/\i= .int .i64 (t:Int)/\Blk wr H (vA 8 fun j=>if j<t then bv (Fz n j) else .int .u8 0) 5/\Below H w wr
theorem yG (n:Int) (t j:Nat) (x:Int) (h:x=U8 (Fz n t)):(if j=t then Value.int .u8 x else if j<t then bv (Fz n j) else .int .u8 0)=if j<t+1 then bv (Fz n j) else .int .u8 0:=by
 subst h;by_cases e:j=t
 .subst e;rw [if_pos rfl,if_pos oA];rfl
 .rw [if_neg e];by_cases e2:j<t
  .rw [if_pos e2,if_pos oA]
  .rw [if_neg e2,if_neg oA]
theorem Di (n:Int) (t:Nat) (p:Int) (hp:p=2^(56-8*t)):IntKind.u64.wrap n/p%256=U8 (Fz n t):=by
 subst hp;have h:=yI n (56-8*t);rw [IntKind.wrap_u8] at h;exact h
theorem Lc (w:World):(Instr.makeSlice 22 (.int .i64 8) (.int .i64 8)).run prog w= .ok (.slice (some ⟨w.heap.size,0,none⟩) 8 8) (w.alloc (.cells (vA 8 fun _=> .int .u8 0) 5)):=by kernel_rfl
theorem eD (n:Int) (w:World):Calls prog 56 #[.int .i64 n] w fun e w'=>e= .returned (.slice (some ⟨w.heap.size,0,none⟩) 8 8)/\ah w' (some ⟨w.heap.size,0,none⟩) (be8 n)/\Below w.heap.size w w'/\w.heap.size<w'.heap.size:=by
 have hms:=fun W=>Lc W;obtain ⟨H,hH⟩:=Le w.heap.size;rw [<-hH];have hB0:=Blk.new w (vA 8 fun _=> .int .u8 0) 5;go_enter func56,ntmps56;go_upto_region 2 with fail;clear hms;rw [<-hH] at hB0⊢;refine af (fun W0=>Ve1 w H n 8 (.int .i64 0) W0) ⟨0,oA,rfl,hB0.ofV fun j _=>by rw [if_neg oA],by rw [hH];exact cL⟩ ?_;have HH:=Hd hH;have hHw:w.heap.size<=H:=VR hH.symm;clear hB0 hH;intro w1 hst;go_wp2_with fail;go_loopg [8] 8 (fun g i wr=>Ve1 w H n g i wr)
 case atStart=>exact hst
 case round=>
  clear hst;obtain ⟨t,hf,rfl,hB,hb⟩:=hrel;have HF:=Hd hf;clear hf;by_cases ht:t<8
  .have HE:=Hd fun t p=>Di n t p;have f0:=hB.free;have h8:t=0\/t=1\/t=2\/t=3\/t=4\/t=5\/t=6\/t=7:=oA;rcases h8 with rfl|rfl|rfl|rfl|rfl|rfl|rfl|rfl
   all_goals
    have c0:=hB.atV oA rfl
    go_wp2_with fail
    clear c0 f0
    go_roundg (gk-1)
    case rel=>
     have hf:=HF.out
     refine ⟨_,oA,gnA,(hB.setV oA _).ofV fun j _=>yG n _ j _ ?_,hb.setCell (by show H<=H;omega) _⟩
     first
      |exact HE.out _ _ rfl
      |(have E:=HE.out 7 1 rfl;rw [Int.ediv_one] at E;exact E)
    case measure=>have hf:=HF.out;omega
  .obtain rfl:t=8:=(by have:=HF.out;omega);go_wp2_with fail;go_ret;have hTT:=hB.ofV (g:=fun j=>bv (Fz n j)) fun j hj=>if_pos hj;refine ⟨rfl,aw.mk fun j hj=> ?_,hb,hB.lt⟩;rw [lmA,au] at hj;rw [VS,hTT.atV hj rfl];simp [be8,Fz]
structure CS where
 b:List UInt8
 bad:Bool
def dM (n:Int) (s:CS):List UInt8×CS:=if n<0\/(s.b.length:Int)<n then ([],⟨s.b,true⟩) else (s.b.take n.toNat,⟨s.b.drop n.toNat,s.bad⟩)
def LC (a:Option Addr) (n c:Nat) (bad:Bool):Array Value:= #[.slice a n c,.bool bad]
structure qv (w:World) (B C:Nat) (s:CS) (a:Option Addr) (n c:Nat):Prop where
 cur:Blk w C (LC a n c s.bad) 142
 read:ah w a s.b
 hl:s.b.length=n
 h1:n<=c
 max:n<=140737488351232
 low:InB B a n
theorem ah.notCurV {w:World} {C:Nat} {x:Option Addr} {n c:Nat} {bd:Bool} (hC:Blk w C (LC x n c bd) 142) {a:Option Addr} {b:List UInt8} (h:ah w a b) (i:Nat) (v:Value):ah (w.setCell ⟨C,i,none⟩ v) a b:=by
 intro j hj;obtain ⟨g,o,e,hc⟩:=h j hj;refine ⟨g,o,e,?_⟩;have hne:g≠C:=by
  rintro rfl;rw [hC.rule] at hc;have hlt:o+j<2:=(VK.1 hc).1;have:o+j=0\/o+j=1:=oA;rcases this with e|e<;>rw [e] at hc<;>simp [LC,bv] at hc
 have hh:(w.setCell ⟨C,i,none⟩ v).heap[g]? =w.heap[g]? :=VU w ⟨C,i,none⟩ g v hne;unfold World.cell? at hc⊢;simp only at hc⊢;rw [hh];exact hc
theorem ah.cutV {w:World} {a:Option Addr} {b:List UInt8} {len cap:Nat} (h:ah w a b) (hl:b.length=len) (hc:len<=cap) (k:Nat) (_hk:k<=len):ah w (kP a cap k) (b.drop k):=by
 unfold kP;by_cases e:cap=k
 .rw [if_pos e];have:b.drop k=[]:=List.drop_eq_nil_of_le oA;rw [this];exact aw.nil _ _
 .rw [if_neg e];intro i hi;rw [lmA,ldA] at hi;obtain ⟨bb,o,rfl,hc⟩:=h (k+i) (by rw [lmA];omega);refine ⟨bb,o+k,by rw [Xf,Vs,Vk],?_⟩;rw [WP,hc];simp
theorem InB.cut {B:Nat} {a:Option Addr} {len:Nat} (h:InB B a len) (cap q:Nat):InB B (kP a cap q) (len-q):=fun h0 ad e=>by
 unfold kP at e;split at e
 .exact h oA ad e
 .obtain ⟨x,hx,rfl⟩:=WR.1 e;rw [show (x.add (q*1)).block=x.block from by unfold Addr.add;split<;>rfl]
  exact h oA x hx
theorem qv.keep {w w':World} {B C:Nat} {s:CS} {a:Option Addr} {n c:Nat} (h:qv w B C s a n c) (hk:w'.heap[C]? =w.heap[C]?) (hb:Below B w w'):qv w' B C s a n c:=
 ⟨hk.trans h.cur,aw.low h.read h.low (fun h0=>by rw [Vz (h.hl.trans h0)];rfl) hb,h.hl,h.h1,h.max,h.low⟩
theorem aJ.one {C i:Nat} {w w':World} (h:aJ (fun x=>x=C) w w') (v:Value):aJ (fun x=>x=C) w (w'.setCell ⟨C,i,none⟩ v):=h.setCell (x:=⟨C,i,none⟩) (Or.inl rfl) v
def Dq (w:World) (B C:Nat) (n:Int) (s:CS) (cap:Nat) (e:Ending) (w':World):Prop:=
 ∃a k a' n' c',e= .returned (.slice a k cap)/\(dM n s).1.length=k/\ah w' a (dM n s).1/\qv w' B C (dM n s).2 a' n' c'/\aJ (fun x=>x=C) w w'
theorem oZ (B C:Nat) (s:CS) (a:Option Addr) (len cap:Nat) (m:Int) (w:World) (h:qv w B C s a len cap):
  Calls prog 81 #[.pointer (some ⟨C,0,none⟩),.int .i64 m] w (Dq w B C m s cap):=by
 have c0:w.cell? ⟨C,0,none⟩=some (.slice a len cap):=h.cur.cell rfl;have c1:w.cell? ⟨C,1,none⟩=some (.bool s.bad):=h.cur.cell rfl;have f0:=h.cur.free;by_cases hb:m<0\/(len:Int)<m
 .have e1:dM m s=([],⟨s.b,true⟩):=if_pos (by rw [h.hl];exact hb);have HP:∀w',qv w' B C ⟨s.b,true⟩ a len cap->aJ (fun x=>x=C) w w'->Dq w B C m s cap (.returned (.slice a 0 cap)) w':=fun w' h1 h2=>by
   refine ⟨a,0,a,len,cap,rfl,?_⟩;rw [e1];exact ⟨rfl,aw.nil _ _,h1,h2⟩
  clear e1;rcases hb with hb|hb
  .have HP2:Dq w B C m s cap (.returned (.slice a 0 cap)) ((w.setCell ⟨C,1,none⟩ (.bool true)).setCell ⟨C,0,none⟩ (.slice a len cap)):=HP _ ⟨(h.cur.set 1 (.bool true)).set 0 (.slice a len cap),ah.notCurV (bd:=true) (h.cur.set 1 (.bool true)) (ah.notCurV h.cur h.read 1 _) 0 _,h.hl,h.h1,h.max,h.low⟩ (((aJ.refl _ _).one _).one _);clear HP h;have t1:decide (m<0)=true:=VO hb;go_enter func81,ntmps81;go_wp2_with fail;go_ret;exact HP2
  .have HP2:Dq w B C m s cap (.returned (.slice a 0 cap)) ((w.setCell ⟨C,1,none⟩ (.bool true)).setCell ⟨C,0,none⟩ (.slice a len cap)):=HP _ ⟨(h.cur.set 1 (.bool true)).set 0 (.slice a len cap),ah.notCurV (bd:=true) (h.cur.set 1 (.bool true)) (ah.notCurV h.cur h.read 1 _) 0 _,h.hl,h.h1,h.max,h.low⟩ (((aJ.refl _ _).one _).one _);clear HP h;have t1:decide (m<0)=false:=soA;have t2:decide ((len:Int)<m)=true:=VO hb;go_enter func81,ntmps81;go_wp2_with fail;go_ret;exact HP2
 .have hm0:0<=m:=oA;obtain ⟨q,rfl⟩:∃q:Nat,m=(q:Int):=⟨m.toNat,oA⟩;have hq:q<=len:=oA;have e1:dM (q:Int) s=(s.b.take q,⟨s.b.drop q,s.bad⟩):=if_neg (by rw [h.hl];exact hb);have HP:Dq w B C (q:Int) s cap (.returned (.slice a q cap)) (w.setCell ⟨C,0,none⟩ (.slice (kP a cap q) (len-q) (cap-q))):=by
   refine ⟨a,q,kP a cap q,len-q,cap-q,rfl,?_⟩;rw [e1];have hr:=ah.notCurV h.cur h.read 0 (.slice (kP a cap q) (len-q) (cap-q));refine ⟨by rw [ltA,h.hl];omega,?_,⟨h.cur.set 0 _,hr.cutV h.hl h.h1 q hq,by rw [ldA,h.hl],by have:=h.h1;omega,by have:=h.max;omega,h.low.cut cap q⟩,(aJ.refl _ _).one _⟩;unfold ah;rw [WE];exact aw.take q hr
  have hqc:q<=cap:=At hq h.h1;have t1:decide ((q:Int)<0)=false:=skA;have t2:decide ((len:Int)<(q:Int))=false:=soA;clear e1 h;by_cases hcq:cap=q
  .rw [show kP a cap q=a from if_pos hcq] at HP;subst hcq;rw [Nat.sub_self] at HP;go_enter func81,ntmps81;go_wp2_with fail
   all_goals
    go_ret
    exact HP
  .rw [show kP a cap q=a.map (·.add q) from by unfold kP;rw [if_neg hcq,Vk]] at HP;go_enter func81,ntmps81;go_wp2_with fail
   all_goals
    go_ret
    exact HP
theorem ah.cellV {w:World} {a:Option Addr} {l:List UInt8} (h:ah w a l) (i:Nat) (hi:i<l.length):∃b o,a=some ⟨b,o,none⟩/\w.cell? ⟨b,o+i,none⟩=some (.int .u8 (U8 (l[i]?.getD 0))):=by
 obtain ⟨b,o,e,hc⟩:=h i (by rw [lmA];exact hi);exact ⟨b,o,e,by rw [hc];simp [bv,hi]⟩
def be (s:CS):Int×CS:=((rdB (dM 8 s).1).toInt,(dM 8 s).2)
def NumP (w:World) (B C:Nat) (s:CS) (e:Ending) (w':World):Prop:=
 ∃a' n' c',e= .returned (.int .i64 (be s).1)/\qv w' B C (be s).2 a' n' c'/\aJ (fun x=>x=C) w w'
def Nv1 (w:World) (l:List UInt8) (n:Nat) (f:Nat) (v i:Value) (wr:World):Prop:=
 ∃t:Nat,f+t=n/\i= .int .i64 (t:Int)/\v= .int .u64 (U64 (rdB (l.take t)))/\w=wr
theorem fN (B C:Nat) (s:CS) (a:Option Addr) (len cap:Nat) (w:World) (h:qv w B C s a len cap):
  Calls prog 82 #[.pointer (some ⟨C,0,none⟩)] w (NumP w B C s):=by
 go_enter func82,ntmps82;go_wp2_with fail;refine (oZ B C s a len cap 8 _ h).mono ?_;rintro e w1 ⟨b,k,a',n',c',rfl,hk,hr,hc,ht⟩;have HP:NumP w B C s (.returned (.int .i64 (rdB (dM 8 s).1).toInt)) w1:=⟨a',n',c',rfl,hc,ht⟩;have hk8:k<=8:=by
  rw [<-hk];unfold dM;split
  .simp
  .simp only [ltA];exact Nat.min_le_left _ _
 generalize (dM 8 s).1=l at*;clear hc ht h;have HK:=Hd hk;clear hk;go_wp2_with fail;go_loopg [3,5,9] k (fun f v _ i wr=>Nv1 w1 l k f v i wr)
 case atStart=>exact ⟨0,oA,rfl,by simp [rdB,U64],rfl⟩
 case round=>
  obtain ⟨t,hf,rfl,rfl,rfl⟩:=hrel;have HF:=Hd hf;clear hf;by_cases ht:t<k
  .have tt:decide ((t:Int)<(k:Int))=true:=VO oA;obtain ⟨b1,o1,rfl,c1⟩:=ah.cellV hr t (by rw [HK.out];exact ht);go_wp2_with fail;go_roundg (gk-1)
   case rel=>
    refine ⟨t+1,by have:=HF.out;omega,gnA,?_,rfl⟩;have e:l.take (t+1)=l.take t++ [l[t]?.getD 0]:=by
     rw [VW (by rw [HK.out];exact ht)];simp [HK.out,ht]
    rw [e,oq];rw [<-sL]
   case measure=>have:=HF.out;omega
  .obtain rfl:t=k:=(by have:=HF.out;omega);have tt:decide ((t:Int)<(t:Int))=false:=skA;have e2:l.take t=l:=Vj (by rw [HK.out];omega);rw [e2];go_wp2_with fail;go_ret;have e3:wrap64 (U64 (rdB l))=(rdB l).toInt:=(by rw [<-kN];first|rfl|simp [VZ,wrap64]);rw [<-e3] at HP;exact HP
def gw (s:CS):List UInt8×CS:=dM (be s).1 (be s).2
def Mi (w:World) (B C:Nat) (s:CS) (e:Ending) (w':World):Prop:=
 ∃a' n' c',e= .returned (.string (dy (gw s).1))/\qv w' B C (gw s).2 a' n' c'/\aJ (fun x=>x=C) w w'
theorem oY (B C:Nat) (s:CS) (a:Option Addr) (len cap:Nat) (w:World) (h:qv w B C s a len cap):
  Calls prog 83 #[.pointer (some ⟨C,0,none⟩)] w (Mi w B C s):=by
 go_enter func83,ntmps83;go_wp2_with fail;refine (fN B C s a len cap _ h).mono ?_;rintro e w1 ⟨a1,n1,c1,rfl,h1,ht1⟩;go_wp2_with fail;refine (oZ B C _ a1 n1 c1 (be s).1 _ h1).mono ?_;rintro e w2 ⟨b,k,a2,n2,c2,rfl,hk,hr,hc,ht2⟩;have HP:Mi w B C s (.returned (.string (dy (gw s).1))) w2:=⟨a2,n2,c2,rfl,hc,ht1.trans ht2 fun _ hx=> .inl hx⟩;have e1:(gw s).1=(dM (be s).1 (be s).2).1:=rfl;rw [<-e1] at hk hr;generalize (gw s).1=l at*;have hs:(convert 22 9 (.slice b k c1)).run prog w2= .ok (.string (dy l)) w2:=mh w2 underlying22 underlying5 underlying9 hr hk;clear e1 hk hr hc;go_wp2_with fail;go_ret;exact HP
def fm:Nat->CS->List Int×CS
 |0,s=>([],s)
 |k+1,s=>((be s).1::(fm k (be s).2).1,(fm k (be s).2).2)
def gx (s:CS):List Int×CS:=
 if (be s).1<0\/(((be s).2.b.length/8:Nat):Int)<(be s).1 then ([],⟨(be s).2.b,true⟩) else fm (be s).1.toNat (be s).2
def Mv (w:World) (B C:Nat) (s:CS) (e:Ending) (w':World):Prop:=
 ∃(l:Sl) (a':Option Addr) (n' c':Nat),e= .returned (.slice l.a l.n l.c)/\av w' w.heap.size l (gx s).1/\qv w' B C (gx s).2 a' n' c'/\aJ (fun x=>x=C) w w'
def Lv1 (w:World) (B C N:Nat) (L:List Int×CS) (f:Nat) (v3 v23:Value) (wr:World):Prop:=
 ∃(i:Nat) (a:Option Addr) (c:Nat) (l:List Int) (s:CS) (a':Option Addr) (n' c':Nat),i+f=N/\v23= .int .i64 (i:Int)/\v3= .slice a i c/\l.length=i/\(∀x∈l,eO x)/\Own wr w.heap.size 3 1 a i c (l.map (Value.int .i64))/\qv wr B C s a' n' c'/\aJ (fun x=>x=C) w wr/\Hid (L=(l++(fm f s).1,(fm f s).2))
theorem tV (n:Int) (s:CS):(dM n s).2.b.length<=s.b.length:=by
 unfold dM;split
 .exact Lt _
 .simp only [ldA];omega
theorem fK (s:CS):(be s).2.b.length<=s.b.length:=tV 8 s
theorem jd (s:CS):eO (be s).1:=by
 have:=Xh (x:=rdB (dM 8 s).1);have:=Xi (x:=rdB (dM 8 s).1);unfold be eO;simp [Lit.wf,IntKind.min,IntKind.max,IntKind.signed,IntKind.bits];omega
theorem pd (B C:Nat) (s:CS) (a:Option Addr) (len cap:Nat) (w:World) (h:qv w B C s a len cap) (hB:B<=w.heap.size) (hBC:B<=C) (hz:len<=1000000000):
  Calls prog 84 #[.pointer (some ⟨C,0,none⟩)] w (Mv w B C s):=by
 have hCw:=h.cur.lt;have hsl:=h.hl;go_enter func84,ntmps84;go_wp2_with fail;refine (fN B C s a len cap _ h).mono ?_;rintro e w1 ⟨a1,n1,c1,rfl,h1,ht1⟩;clear h;have hz1:n1<=1000000000:=by
  rw [<-h1.hl];have hl0:=fK s;omega
 have HL:=Hd (show gx s=if (be s).1<0\/(((be s).2.b.length/8:Nat):Int)<(be s).1 then ([],⟨(be s).2.b,true⟩) else fm (be s).1.toNat (be s).2 from rfl);obtain ⟨L,hLs⟩:=Le (gx s);rw [<-hLs] at HL;have HLs:=Hd hLs;clear hLs;generalize (be s).1=N at*;generalize (be s).2=s1 at*;have hl1:=h1.hl;rw [hl1] at HL;have c0:w1.cell? ⟨C,0,none⟩=some (.slice a1 n1 c1):=h1.cur.cell rfl;have cb:w1.cell? ⟨C,1,none⟩=some (.bool s1.bad):=h1.cur.cell rfl;have f0:=h1.cur.free;have tq:(n1:Int).tdiv 8=((n1/8:Nat):Int):=(by rw [WH oA];omega);by_cases hb:N<0\/((n1/8:Nat):Int)<N
 .rw [if_pos hb] at HL;have HP:∀w2 (e:Ending),w2=w1.setCell ⟨C,1,none⟩ (.bool true)->e= .returned (.slice none 0 0)->Mv w B C s e w2:=by
   rintro w2 e rfl rfl;refine ⟨⟨none,0,0⟩,a1,n1,c1,rfl,?_⟩;rw [<-HLs.out,HL];exact ⟨av.nil _ _,⟨h1.cur.set 1 (.bool true),ah.notCurV h1.cur h1.read 1 _,h1.hl,h1.h1,h1.max,h1.low⟩,ht1.one _⟩
  by_cases hb0:N<0
  .have t1:decide (N<0)=true:=VO hb0;clear HL h1 hb;go_wp2_with fail;go_ret;exact HP _ _ rfl rfl
  .have hb:((n1/8:Nat):Int)<N:=oA;have t1:decide (N<0)=false:=Vd hb0;have t2:decide (((n1/8:Nat):Int)<N)=true:=VO hb;clear HL h1;go_wp2_with fail;go_ret;exact HP _ _ rfl rfl
 .rw [if_neg hb] at HL;obtain ⟨q,rfl⟩:∃q:Nat,N=(q:Int):=⟨N.toNat,oA⟩;rw [WM] at HL;have hq:q<=n1/8:=oA;have t1:decide ((q:Int)<0)=false:=skA;have t2:decide (((n1/8:Nat):Int)<(q:Int))=false:=soA;have hst:Lv1 w B C q L q (.slice none 0 0) (.int .i64 0) w1:=⟨0,none,0,[],s1,a1,n1,c1,oA,rfl,rfl,rfl,fun x hx=>by simp at hx,Own.nil _ _ _ _,h1,ht1,Hd (by rw [HL];rfl)⟩;clear HL h1 ht1;go_wp2_with fail;go_loopg [3,23] q (Lv1 w B C q L)
  case atStart=>exact hst
  case round=>
   clear hst;obtain ⟨i,a,c,l,s,a',n',c',hi,rfl,rfl,hll,hwf,hown,hc,ht,hL⟩:=hrel;by_cases hlt:i<q
   .have t0:decide ((i:Int)<(q:Int))=true:=soA;have cb:=fN B C s a' n' c' wr hc;have hzr:=ht.size;go_wp2_with fail;refine cb.mono ?_;clear cb;rintro e w3 ⟨a3,n3,c3,rfl,hc3,ht3⟩;obtain ⟨gf,hgf⟩:∃x,gk=x+1:=⟨gk-1,oA⟩;have hL3:=hL.out;rw [hgf] at hL3;have HL3:=Hd (show L=((l++ [(be s).1])++(fm gf (be s).2).1,(fm gf (be s).2).2) from by rw [hL3];simp [fm]);have hwm:=jd s;clear hL hL3;generalize (be s).1=v at*;generalize (be s).2=s3 at*;have hown3:Own w3 w.heap.size 3 1 a i c (l.map (Value.int .i64)):=hown.turn ht3 (fun x hx=>by subst hx;exact hCw);have ht03:=ht.trans ht3 fun _ hx=> .inl hx;have hz3:=ht03.size;have hA:=hown3.alloc (.cells #[.int .i64 v] 3);go_wp2_with (at_builtin;refine al rfl _ _ 34 rfl rB rfl hA rfl (aw.new' _ _ _ _ skA) rfA (by exact dg _ rfl) mxA oA soA ?_);intro a6 c6 w6 hown6 hg6;have hb6:Below w.heap.size w3 w6:=((AT _ _).alloc hz3 _).trans (hA.grown (AT _ _) (Lt _) hg6 soA);have hc6:qv w6 B C s3 a3 n3 c3:=hc3.keep (hb6.block C hCw) (hb6.mono hB);have ht6:aJ (fun x=>x=C) w w6:=ht03.trans (aJ.of_ge hb6) fun x hx=> .inr hx;go_wp2_with fail;go_roundg gf
    case measure=>omega
    case rel=>
     refine ⟨i+1,a6,c6,l++ [v],s3,a3,n3,c3,oA,gnA,rfl,by simp [hll],?_,by simpa using hown6,hc6,ht6,HL3⟩;intro x hx;rcases VQ.1 hx with hx|hx
     .exact hwf x hx
     .rw [VH.1 hx];exact hwm
   .have t0:decide ((i:Int)<(q:Int))=false:=soA;have hg0:gk=0:=oA;have hL3:=hL.out;rw [hg0] at hL3;have HL3:=Hd (show L=(l,s) from by rw [hL3];simp [fm]);clear hL hL3;go_wp2_with fail;go_ret;refine ⟨⟨a,i,c⟩,a',n',c',rfl,?_⟩;rw [<-HLs.out,HL3.out];exact ⟨⟨hown,hown.row,hll,hown.le,hown.cap_le,by dsimp only;omega,hwf⟩,hc,ht⟩
end
section
open Go.ChangeShapes Go.WideShapes Go.ChangeAt Go.RowKit
open Go.RowKit
def jW (s:ByteArray):List UInt8:=s.data.toList
theorem dm (s:ByteArray):(jW s).length=s.size:=rfl
theorem oU {P:Program} {ops:Array Oper} {rest:List Oper} {o:Oper} {a:Act} {w:World} {Q:Exit->Act->World->Prop} (hgd:o.guard=none) (src dst:TypeId) (x:Operand) (ho:o.op= .convert src dst x)
  {e:TypeId} (hs:P.underlying src=some .string) (hd:P.underlying dst=some (.slice e)) (he:P.underlying e=some (.int .u8)) {s:ByteArray} (hx:a.eval x= .string s)
  (h:∀c w',ah w' (some ⟨w.heap.size,0,none⟩) (jW s)->Below w.heap.size w w'->w.heap.size<w'.heap.size->wpList P ops Q rest (a.put o.dst (.slice (some ⟨w.heap.size,0,none⟩) s.size c)) w'):wpList P ops Q (o::rest) a w:=by
 refine XO hgd fun K hK=> ?_;unfold Oper.wp execOp;simp only [ho,hx,run_bytes_of_string w src dst e s hs hd he,Wm,Sem.run_pure,WT];refine hK _ _ (h _ _ ?_ ((AT _ _).drew.alloc skA _) skA);refine aw.mk fun i hi=> ?_;rw [lmA,dm] at hi;have e1:w.heap.size=w.drew.heap.size:=rfl;rw [VS,e1,World.cell?_alloc_mark,bytesRow];have hi':i<s.data.size:=hi;rw [Array.getElem?_append_left (by simpa using hi')];simp [jW,bv,U8];exact ⟨_,Array.getElem?_eq_getElem hi',rfl⟩
end
section
open Go.RowKit
theorem mO {P:Program} {ops:Array Oper} {rest:List Oper} {o:Oper} {a:Act} {w:World} {Q:Exit->Act->World->Prop} (hgd:o.guard=none) (sl x:Operand) (t u:TypeId)
  (ho:o.op= .call {callee:= .builtin .append,args:= #[sl,x],argTypes:= #[t,u]}) {e:TypeId} (hT:bu P t e 1 1) (hz:(P.info? e).bind (·.zero)=some (.int .u8 0)) (hu:P.underlying u=some .string)
  {B:Nat} {sa:Option Addr} {n sc:Nat} {xs:List Value} (hs:a.eval sl= .slice sa n sc) (hown:Own w B e 1 sa n sc xs) {s:ByteArray} (hx:a.eval x= .string s) (h63:n+s.size<=140737488355328) (hbase:B<=w.heap.size)
  (h:∀a' c' w',Own w' B e 1 a' (n+s.size) c' (xs++(jW s).map bv)->w.grownBy w' (Value.slice sa n sc).ownBlock->wpList P ops Q rest (a.put o.dst (.slice a' (n+s.size) c')) w'):wpList P ops Q (o::rest) a w:=by
 obtain ⟨ht,hsz,i,z,hi,hz',hsize,hby,hzs⟩:=hT;have hzero:i.zero=some (.int .u8 0):=(by simpa [hi] using hz);refine Go.Lib.wpList_append_own_string w hgd sl x t u ho B e i ht hu hi hzero hsize hby (.slice sa n sc) n xs hs hown s hx mxA h63 hbase ?_;intro v' w' hown' hg _;have e1:Go.Lib.strCells s=(jW s).map bv:=rfl;rw [e1] at hown';have form:∃a' c',v'= .slice a' (n+s.size) c':=by
  rcases hown'.2 with ⟨rfl,hn⟩|⟨g,cap,cur,rfl,_⟩
  .exact ⟨none,0,by rw [hn]⟩
  .exact ⟨_,_,rfl⟩
 obtain ⟨a',c',rfl⟩:=form;exact h a' c' w' hown' hg
end
end Go.Proofs.YtioigihakjlopaaGreat

import Derived.Test.YtioigihakjlopaaGreatVR04
import Derived.Laws.IdiomStrings
import Derived.Lib.AppendStr
namespace Go.Proofs.YtioigihakjlopaaGreat
open Go.Proofs.Tryz
set_option linter.unusedVariables false
set_option linter.unusedSimpArgs false
set_option maxHeartbeats 16000000
set_option maxRecDepth 100000
section
open Go.RowKit
theorem Ce {α β:Type} (v:α) (a:Nat) (f:α->Nat->Rd β):thn (.ok (v,a)) f=f v a:=rfl
theorem Cs {cs:AS} {i j:Nat} {v:Value} (h:i≠j):(cs.setIfInBounds i v)[j]? =cs[j]? :=by
 rw [Vs,VV h]
def NL {α H:Type} (B:Nat) (w:As) (q:RC) (r:Rd α) (Ow:World->α->H->Prop) (f:α->H->AS) (xb:Nat) (t:TypeId) (e:Ending) (w':As):Prop:=match r with
 | .error p=>e= .panicked (mH p)/\gK w q w' xb t
 | .ok (l,a)=>e= .returned (.tuple #[])/\∃s,Ow w' l s/\mB B w q w' (q.to a) xb (f l s) t
section
variable {α H:Type} {B:Nat} {w w':As} {q:RC} {r:Rd α} {Ow:World->α->H->Prop} {f:α->H->AS} {xb:Nat} {t:TypeId} {e:Ending}
theorem NL.err (h:NL B w q r Ow f xb t e w') {p:Nat} (A:r= .error p):e= .panicked (mH p)/\gK w q w' xb t:=by subst A;exact h
theorem NL.ok (h:NL B w q r Ow f xb t e w') {v:α} {a:Nat} (A:r= .ok (v,a)):e= .returned (.tuple #[])/\∃s,Ow w' v s/\mB B w q w' (q.to a) xb (f v s) t:=by subst A;exact h
end
section
variable {w w':As} {B:Nat} {s:Sl} {F:Nat->Prop}
theorem Own.turn {e:TypeId} {size:Nat} {a:Lt} {n c:Nat} {vs:AT} (h:Own w B e size a n c vs) (A:aJ F w w') (C:∀x,F x->x<B):Own w' B e size a n c vs:=
 h.keepAt fun x hx=>by
  obtain ⟨G,D,_⟩:=h.block_lt hx;exact A.block _ D fun E=>by have:=C _ E;omega
theorem ax.turn {l:List Int} (h:ax w B s l) (A:aJ F w w') (C:∀x,F x->x<B):ax w' B s l:=⟨h.1.turn A C,(h.1.turn A C).row,h.2.2⟩
theorem aQ.turn {l:List ci} (h:aQ w B s l) (A:aJ F w w') (C:∀x,F x->x<B):aQ w' B s l:=⟨h.1.turn A C,(h.1.turn A C).row,h.2.2⟩
end
theorem Mv (bs:Le) (a:Nat):uf bs a 3=[.int .i64 (ii bs a),.int .i64 (ii bs (a+8)),.int .i64 (ii bs (a+16))]:=rfl
theorem wZ {bs:Le} {a:Nat} {n:Int} {b:Nat} (h:ed bs a= .ok (n,b)):wf8 n:=by
 unfold ed at h;cases A:bO bs a with
 |error p=>rw [A] at h;cases h
 |ok v=>
  rw [A] at h;dsimp only at h;split at h
  .cases h
  .rename_i ho;cases h;simp only [wf8,Lit.wf,IntKind.min,IntKind.max,IntKind.signed,IntKind.bits];simp;omega
theorem GO (w:As) (B:Nat) (q:RC) (xb:Nat) (cs:AS) (t:TypeId) (P:bF) (J:dy) (hq:RAt w B q) (hB:B<=w.heap.size) (hx:Blk w xb cs t) (hcs:cs=(aw P J).toArray) (A0:B<=xb) (A1:xb≠q.c):
  Calls prog 121 #[.pointer (some ⟨q.c,0,none⟩),.pointer (some ⟨xb,0,none⟩)] w (NL B w q (eX q.bs q.at_) (fun W=>bu W w.heap.size) (fun p h=>(aw p h).toArray) xb t):=by
 have D5:∀(fn:Fn) (first cap:AS) (w:As),(Instr.makeFunc fn first cap).run prog w= .ok (.func fn first cap) w:=fun _ _ _ _=>rfl;have C7:∀j,j<3->∃v,cs[1+j]? =some (.int .i64 v):=fun j R=>by
  rw [hcs];rcases (show j=0\/j=1\/j=2 by omega) with rfl|rfl|rfl
  .exact ⟨P.side,rfl⟩
  .exact ⟨P.place,rfl⟩
  .exact ⟨P.target,rfl⟩
 have i0:cs[0]? =some (.int .i8 P.op):=(by rw [hcs];rfl);have i4:cs[4]? =some (.slice J.ids.a J.ids.n J.ids.c):=(by rw [hcs];rfl);have i5:cs[5]? =some (.slice J.pairs.a J.pairs.n J.pairs.c):=(by rw [hcs];rfl);have C8:cs.size=6:=(by rw [hcs];rfl);have D4:=hq.blk.lt;have D6:=hx.lt;have hF:∀x,(x=q.c\/x=xb)->x<w.heap.size:=fun x hx=>(by rcases hx with rfl|rfl<;>assumption);clear hcs
 go_enter func121,ntmps121;have I:=Hd (show eX q.bs q.at_=thn (ed q.bs q.at_) fun op a=>thn (bO q.bs a) fun A7 a=>thn (bO q.bs a) fun A6 a=>thn (bO q.bs a) fun target a=>thn (gS q.bs a) fun Y a=>thn (fj q.bs a) fun X a=> .ok ((⟨op,A7,A6,target,Y,X⟩:bF),a) from rfl);have Z:mB B w q w (q.to q.at_) xb cs t:=⟨hq,aJ.refl _ _,hx⟩;have E:=Je w B (q.to q.at_) xb 0 cs t P.op Z.at' (Vd hB Z.turn.size) Z.blk i0 A0 A1;have L:(q.to q.at_).c=q.c:=rfl;rw [L] at E;go_wp2_with fail;refine E.mono ?_;clear E;rintro e w1 G;rcases hE1:ed q.bs q.at_ with p|⟨v1,D⟩
 .obtain ⟨rfl,b⟩:=G.err hE1;have M:=Hd (show eX q.bs q.at_= .error p by
   rw [I.out,hE1];rfl)
  have d:gK w q w1 xb t:=gK.after Z hx rfl b rfl;clear G;go_wp2_with fail;refine ⟨rfl,?_⟩;rw [M.out];exact ⟨rfl,d⟩
 obtain ⟨rfl,A⟩:=G.ok hE1;rw [hE1,Ce] at I;replace A:=Z.chain (q'':=q.to D) A rfl;obtain ⟨S,A2⟩:∃C:AS,C=cs.setIfInBounds 0 (.int .i8 v1):=⟨_,rfl⟩;have g:mB B w q w1 (q.to D) xb S t:=(by rw [A2];exact A);have BY:∀j,0+1<=j->S[j]? =cs[j]? :=fun j R=>by
  rw [A2];exact Cs oA
 have B0:S.size=cs.size:=(by rw [A2];simp only [YE,fk]<;>exact rfl);have C9:=wZ hE1
 clear A G hE1;go_upto_region 1 with fail;have C6:∀j,j<3->∃v,S[1+j]? =some (.int .i64 v):=fun j R=>by
  obtain ⟨v,hv⟩:=C7 j R;exact ⟨v,(BY _ oA).trans hv⟩
 have B1:=Vd hB g.turn.size;have B2:=g.at';have B3:=g.blk;refine ah false (au (fun _=>False)) (au.refl _) (fun _ _ _ m o=>au.trans m o) (.step 0 (.step 1 (.step 2 (.step 3 (.step 4 (.step 5 (.step 6 (.step 7 (.step 8 (.step 9 (.step 10 (.step 11 .done)))))))))))) krA krA cdA ?_
 repeat refine txA ?_
 refine am rfl rfl rfA (fun K T=> ?_);go_wp2_with fail;refine T _ _ ⟨skA,fun _ h=>h.elim⟩ ?_;clear T K
 repeat refine txA ?_
 refine am rfl rfl rfA (fun K T=> ?_);go_wp2_with fail;have l:Below w1.heap.size w1 (w1.alloc (.cells #[.pointer (some ⟨xb,1,none⟩),.pointer (some ⟨xb,2,none⟩),.pointer (some ⟨xb,3,none⟩)] 209)).drew:=cL;have E:=Hp _ B (q.to D) w1.heap.size 3 xb 1 S _ (B2.old l B1) (Vd B1 l.size) (Blk.new w1 #[.pointer (some ⟨xb,1,none⟩),.pointer (some ⟨xb,2,none⟩),.pointer (some ⟨xb,3,none⟩)] 209).drew (Zf B2.blk.lt) (Zf B3.lt) (B3.old l) C6 A0 A1 oA;have L:(q.to D).c=q.c:=rfl;rw [L] at E;refine E.mono ?_;clear E;rintro e w2 ⟨m,o⟩;rcases YX q.bs.length (D+8*3) with C5|A9
 .obtain ⟨rfl,DO⟩:=m C5;have M:=Hd (show eX q.bs q.at_= .error q.bs.length by rw [I.out];exact Jm q.bs D _ oA);have D0:gK w q w2 xb t:=gK.after g hx B0 (gK.pre l DO) rfl;clear m o T;go_wp2_with fail;refine ⟨rfl,?_⟩;rw [M.out];exact ⟨rfl,D0⟩
 obtain ⟨rfl,A⟩:=o A9;have D1:=A.turn.size;replace A:=g.chain (q'':=q.to (D+8*3)) (A.pre l) rfl;have B4:=Hd (show eX q.bs q.at_=thn (gS q.bs (D+8*3)) fun Y a=>thn (fj q.bs a) fun X a=> .ok ((⟨v1,ii q.bs D,ii q.bs (D+8),ii q.bs (D+16),Y,X⟩:bF),a) by
  rw [I.out];exact Mf q.bs D (fun A7 A6 target a=>thn (gS q.bs a) fun Y a=>thn (fj q.bs a) fun X a=> .ok ((⟨v1,A7,A6,target,Y,X⟩:bF),a)) A9)
 clear m o I;have I:=B4;clear B4;go_wp2_with fail;refine T _ _ ⟨by simpa using D1,fun _ h=>h.elim⟩ ?_;clear T K;refine aq ?_;obtain ⟨y,A3⟩:=At (eu S 1 (uf q.bs D 3));obtain ⟨a2,B5⟩:=At (D+8*3);have N:mB B w q w2 (q.to a2) xb y t:=(by rw [A3,B5];exact A);have B6:y.size=cs.size:=(by rw [A3,fk];exact B0);have B7:∀j,4<=j->y[j]? =cs[j]? :=fun j R=>by
  rw [A3,iv _ _ _ _ (.inr soA)];exact BY j oA
 rw [<-B5] at I;clear A;have E:=AR w2 B (q.to a2) xb 4 y t J.ids N.at' (Vd hB N.turn.size) N.blk ((B7 _ oA).trans i4) A0 A1;have L:(q.to a2).c=q.c:=rfl;rw [L] at E;go_wp2_with fail;refine E.mono ?_;clear E;rintro e w3 G;rcases hE3:gS q.bs a2 with p|⟨v3,a3⟩
 .obtain ⟨rfl,b⟩:=G.err hE3;have M:=Hd (show eX q.bs q.at_= .error p by
   rw [I.out,hE3];rfl)
  have d:gK w q w3 xb t:=gK.after N hx B6 b rfl;clear G;go_wp2_with fail;refine ⟨rfl,?_⟩;rw [M.out];exact ⟨rfl,d⟩
 obtain ⟨rfl,U,B9,A⟩:=G.ok hE3;rw [hE3,Ce] at I;have A8:ax w3 w.heap.size U v3:=B9.lower N.turn.size;clear B9;replace A:=N.chain (q'':=q.to a3) A rfl;obtain ⟨C3,A4⟩:∃C:AS,C=y.setIfInBounds 4 (.slice U.a U.n U.c):=⟨_,rfl⟩;have O:mB B w q w3 (q.to a3) xb C3 t:=(by rw [A4];exact A);have CK:∀j,4+1<=j->C3[j]? =cs[j]? :=fun j R=>by
  rw [A4];exact (Cs oA).trans (B7 j oA)
 have CW:C3.size=cs.size:=(by rw [A4];simp only [YE,fk]<;>exact B6);clear A G hE3
 have E:=xT w3 B (q.to a3) xb 5 C3 t J.pairs O.at' (Vd hB O.turn.size) O.blk ((CK _ oA).trans i5) A0 A1;have L:(q.to a3).c=q.c:=rfl;rw [L] at E;go_wp2_with fail;refine E.mono ?_;clear E;rintro e w4 G;rcases hE4:fj q.bs a3 with p|⟨v4,a4⟩
 .obtain ⟨rfl,b⟩:=G.err hE4;have M:=Hd (show eX q.bs q.at_= .error p by
   rw [I.out,hE4];rfl)
  have d:gK w q w4 xb t:=gK.after O hx CW b rfl;clear G;go_wp2_with fail;refine ⟨rfl,?_⟩;rw [M.out];exact ⟨rfl,d⟩
 obtain ⟨rfl,V,C0,A⟩:=G.ok hE4;rw [hE4,Ce] at I;have D2:aQ w4 w.heap.size V v4:=C0.lower O.turn.size;clear C0;replace A8:=A8.turn A.turn hF;replace A:=O.chain (q'':=q.to a4) A rfl;obtain ⟨C4,A5⟩:∃C:AS,C=C3.setIfInBounds 5 (.slice V.a V.n V.c):=⟨_,rfl⟩;have D3:mB B w q w4 (q.to a4) xb C4 t:=(by rw [A5];exact A);have D7:∀j,5+1<=j->C4[j]? =cs[j]? :=fun j R=>by
  rw [A5];exact (Cs oA).trans (CK j oA)
 have D8:C4.size=cs.size:=(by rw [A5];simp only [YE,fk]<;>exact CW);clear A G hE4
 go_wp2_with fail;refine WR (v:= .tuple #[]) (WZ rfl _ _ _) rfl ?_;rw [I.out];refine ⟨rfl,⟨U,V⟩,⟨C9,ib _ _,ib _ _,ib _ _,A8,D2⟩,?_⟩;have e1:(aw ⟨v1,ii q.bs D,ii q.bs (D+8),ii q.bs (D+16),v3,v4⟩ ⟨U,V⟩).toArray=C4:=by
  rw [<-AG (cs:=cs) (by rw [C8];rfl),A5,A4,A3,A2,Mv];simp only [aw,eu,VN,Nat.reduceAdd]
 dsimp only;rw [e1];exact D3
def GJ (n:Int) (j:Nat):UInt8:=⟨((BitVec.ofInt 64 n)>>>(56-8*j)).setWidth 8⟩
def Ve1 (w:As) (H:Nat) (n:Int) (f:Nat) (i:Value) (wr:As):Prop:=
 ∃t:Nat,f+t=8/\i= .int .i64 (t:Int)/\Blk wr H (vA 8 fun j=>if j<t then bv (GJ n j) else .int .u8 0) 5/\Below H w wr
theorem zS (n:Int) (t j:Nat) (x:Int) (h:x=U8 (GJ n t)):(if j=t then Value.int .u8 x else if j<t then bv (GJ n j) else .int .u8 0)=if j<t+1 then bv (GJ n j) else .int .u8 0:=by
 subst h;by_cases e:j=t
 .subst e;rw [Vz rfl,Vz oA];rfl
 .rw [VV e];by_cases A:j<t
  .rw [Vz A,Vz oA]
  .rw [VV A,VV oA]
theorem Ex (n:Int) (t:Nat) (p:Int) (A:p=2^(56-8*t)):IntKind.u64.wrap n/p%256=U8 (GJ n t):=by
 subst A;have h:=pC n (56-8*t);rw [IntKind.wrap_u8] at h;exact h
theorem MA (w:As):(Instr.makeSlice 22 (.int .i64 8) (.int .i64 8)).run prog w= .ok (.slice (some ⟨w.heap.size,0,none⟩) 8 8) (w.alloc (.cells (vA 8 fun _=> .int .u8 0) 5)):=by kernel_rfl
theorem eK (n:Int) (w:As):Calls prog 56 #[.int .i64 n] w fun e w'=>e= .returned (.slice (some ⟨w.heap.size,0,none⟩) 8 8)/\aj w' (some ⟨w.heap.size,0,none⟩) (be8 n)/\Below w.heap.size w w'/\w.heap.size<w'.heap.size:=by
 have N:=fun W=>MA W;obtain ⟨H,A⟩:=At w.heap.size;rw [<-A];have I:=Blk.new w (vA 8 fun _=> .int .u8 0) 5;go_enter func56,ntmps56;go_upto_region 2 with fail;clear N;rw [<-A] at I⊢;refine ag (fun P=>Ve1 w H n 8 (.int .i64 0) P) ⟨0,oA,rfl,I.ofV fun j _=>by rw [VV oA],by rw [A];exact cL⟩ ?_;have U:=Hd A;have T:w.heap.size<=H:=VM A.symm;clear I A;intro w1 L;go_wp2_with fail;go_loopg [8] 8 (fun g i wr=>Ve1 w H n g i wr)
 case atStart=>exact L
 case round=>
  clear L;obtain ⟨t,D,rfl,C,M⟩:=hrel;have J:=Hd D;clear D;by_cases V:t<8
  .have HE:=Hd fun t p=>Ex n t p;have f0:=C.free;have R:t=0\/t=1\/t=2\/t=3\/t=4\/t=5\/t=6\/t=7:=oA;rcases R with rfl|rfl|rfl|rfl|rfl|rfl|rfl|rfl
   all_goals
    have S:=C.atV oA rfl
    go_wp2_with fail
    clear S f0
    go_roundg (gk-1)
    case rel=>
     have D:=J.out
     refine ⟨_,oA,gnA,(C.setV oA _).ofV fun j _=>zS n _ j _ ?_,M.setCell (by show H<=H;omega) _⟩
     first
      |exact HE.out _ _ rfl
      |(have E:=HE.out 7 1 rfl;rw [Int.ediv_one] at E;exact E)
    case measure=>have D:=J.out;omega
  .obtain rfl:t=8:=(by have:=J.out;omega);go_wp2_with fail;go_ret;have O:=C.ofV (g:=fun j=>bv (GJ n j)) fun j G=>Vz G;refine ⟨rfl,av.mk fun j G=> ?_,M,C.lt⟩;rw [lmA,an] at G;rw [VN,O.atV G rfl];simp [be8,GJ]
structure CS where
 b:Le
 bad:Bool
def dW (n:Int) (s:CS):Le×CS:=if n<0\/(s.b.length:Int)<n then ([],⟨s.b,true⟩) else (s.b.take n.toNat,⟨s.b.drop n.toNat,s.bad⟩)
def MW (a:Lt) (n c:Nat) (bad:Bool):AS:= #[.slice a n c,.bool bad]
structure rj (w:As) (B C:Nat) (s:CS) (a:Lt) (n c:Nat):Prop where
 cur:Blk w C (MW a n c s.bad) 142
 read:aj w a s.b
 hl:s.b.length=n
 h1:n<=c
 max:n<=140737488351232
 low:InB B a n
theorem aj.notCurV {w:As} {C:Nat} {x:Lt} {n c:Nat} {bd:Bool} (E:Blk w C (MW x n c bd) 142) {a:Lt} {b:Le} (h:aj w a b) (i:Nat) (v:Value):aj (w.setCell ⟨C,i,none⟩ v) a b:=by
 intro j G;obtain ⟨g,o,e,A⟩:=h j G;refine ⟨g,o,e,?_⟩;have D:g≠C:=by
  rintro rfl;rw [E.rule] at A;have J:o+j<2:=(VT.1 A).1;have:o+j=0\/o+j=1:=oA;rcases this with e|e<;>rw [e] at A<;>simp [MW,bv] at A
 have I:(w.setCell ⟨C,i,none⟩ v).heap[g]? =w.heap[g]? :=Vq w ⟨C,i,none⟩ g v D;unfold World.cell? at A⊢;simp only at A⊢;rw [I];exact A
theorem aj.cutV {w:As} {a:Lt} {b:Le} {len cap:Nat} (h:aj w a b) (E:b.length=len) (A:len<=cap) (k:Nat) (_hk:k<=len):aj w (lF a cap k) (b.drop k):=by
 unfold lF;by_cases e:cap=k
 .rw [Vz e];have:b.drop k=[]:=Xr oA;rw [this];exact av.nil _ _
 .rw [VV e];intro i C;rw [lmA,ldA] at C;obtain ⟨D,o,rfl,A⟩:=h (k+i) (by rw [lmA];omega);refine ⟨D,o+k,by rw [Xt,WA,Vr],?_⟩;rw [WM,A];simp
theorem InB.cut {B:Nat} {a:Lt} {len:Nat} (h:InB B a len) (cap q:Nat):InB B (lF a cap q) (len-q):=fun C A e=>by
 unfold lF at e;split at e
 .exact h oA A e
 .obtain ⟨x,hx,rfl⟩:=WH.1 e;rw [show (x.add (q*1)).block=x.block from by unfold Addr.add;split<;>rfl]
  exact h oA x hx
theorem rj.keep {w w':As} {B C:Nat} {s:CS} {a:Lt} {n c:Nat} (h:rj w B C s a n c) (A:w'.heap[C]? =w.heap[C]?) (D:Below B w w'):rj w' B C s a n c:=
 ⟨A.trans h.cur,av.low h.read h.low (fun E=>by rw [VX (h.hl.trans E)];rfl) D,h.hl,h.h1,h.max,h.low⟩
theorem aJ.one {C i:Nat} {w w':As} (h:aJ (fun x=>x=C) w w') (v:Value):aJ (fun x=>x=C) w (w'.setCell ⟨C,i,none⟩ v):=h.setCell (x:=⟨C,i,none⟩) (Or.inl rfl) v
def EH (w:As) (B C:Nat) (n:Int) (s:CS) (cap:Nat) (e:Ending) (w':As):Prop:=
 ∃a k a' n' c',e= .returned (.slice a k cap)/\(dW n s).1.length=k/\aj w' a (dW n s).1/\rj w' B C (dW n s).2 a' n' c'/\aJ (fun x=>x=C) w w'
theorem pO (B C:Nat) (s:CS) (a:Lt) (len cap:Nat) (m:Int) (w:As) (h:rj w B C s a len cap):
  Calls prog 81 #[.pointer (some ⟨C,0,none⟩),.int .i64 m] w (EH w B C m s cap):=by
 have O:w.cell? ⟨C,0,none⟩=some (.slice a len cap):=h.cur.cell rfl;have P:w.cell? ⟨C,1,none⟩=some (.bool s.bad):=h.cur.cell rfl;have f0:=h.cur.free;by_cases D:m<0\/(len:Int)<m
 .have E:dW m s=([],⟨s.b,true⟩):=Vz (by rw [h.hl];exact D);have A:∀w',rj w' B C ⟨s.b,true⟩ a len cap->aJ (fun x=>x=C) w w'->EH w B C m s cap (.returned (.slice a 0 cap)) w':=fun w' L M=>by
   refine ⟨a,0,a,len,cap,rfl,?_⟩;rw [E];exact ⟨rfl,av.nil _ _,L,M⟩
  clear E;rcases D with D|D
  .have HP2:EH w B C m s cap (.returned (.slice a 0 cap)) ((w.setCell ⟨C,1,none⟩ (.bool true)).setCell ⟨C,0,none⟩ (.slice a len cap)):=A _ ⟨(h.cur.set 1 (.bool true)).set 0 (.slice a len cap),aj.notCurV (bd:=true) (h.cur.set 1 (.bool true)) (aj.notCurV h.cur h.read 1 _) 0 _,h.hl,h.h1,h.max,h.low⟩ (((aJ.refl _ _).one _).one _);clear A h;have t1:decide (m<0)=true:=VK D;go_enter func81,ntmps81;go_wp2_with fail;go_ret;exact HP2
  .have HP2:EH w B C m s cap (.returned (.slice a 0 cap)) ((w.setCell ⟨C,1,none⟩ (.bool true)).setCell ⟨C,0,none⟩ (.slice a len cap)):=A _ ⟨(h.cur.set 1 (.bool true)).set 0 (.slice a len cap),aj.notCurV (bd:=true) (h.cur.set 1 (.bool true)) (aj.notCurV h.cur h.read 1 _) 0 _,h.hl,h.h1,h.max,h.low⟩ (((aJ.refl _ _).one _).one _);clear A h;have t1:decide (m<0)=false:=soA;have t2:decide ((len:Int)<m)=true:=VK D;go_enter func81,ntmps81;go_wp2_with fail;go_ret;exact HP2
 .have hm0:0<=m:=oA;obtain ⟨q,rfl⟩:∃q:Nat,m=(q:Int):=⟨m.toNat,oA⟩;have I:q<=len:=oA;have E:dW (q:Int) s=(s.b.take q,⟨s.b.drop q,s.bad⟩):=VV (by rw [h.hl];exact D);have A:EH w B C (q:Int) s cap (.returned (.slice a q cap)) (w.setCell ⟨C,0,none⟩ (.slice (lF a cap q) (len-q) (cap-q))):=by
   refine ⟨a,q,lF a cap q,len-q,cap-q,rfl,?_⟩;rw [E];have J:=aj.notCurV h.cur h.read 0 (.slice (lF a cap q) (len-q) (cap-q));refine ⟨by rw [ltA,h.hl];omega,?_,⟨h.cur.set 0 _,J.cutV h.hl h.h1 q I,by rw [ldA,h.hl],by have:=h.h1;omega,by have:=h.max;omega,h.low.cut cap q⟩,(aJ.refl _ _).one _⟩;unfold aj;rw [WB];exact av.take q J
  have N:q<=cap:=Vd I h.h1;have t1:decide ((q:Int)<0)=false:=skA;have t2:decide ((len:Int)<(q:Int))=false:=soA;clear E h;by_cases G:cap=q
  .rw [show lF a cap q=a from Vz G] at A;subst G;rw [Ye] at A;go_enter func81,ntmps81;go_wp2_with fail
   all_goals
    go_ret
    exact A
  .rw [show lF a cap q=a.map (·.add q) from by unfold lF;rw [VV G,Vr]] at A;go_enter func81,ntmps81;go_wp2_with fail
   all_goals
    go_ret
    exact A
theorem aj.cellV {w:As} {a:Lt} {l:Le} (h:aj w a l) (i:Nat) (A:i<l.length):∃b o,a=some ⟨b,o,none⟩/\w.cell? ⟨b,o+i,none⟩=some (.int .u8 (U8 (l[i]?.getD 0))):=by
 obtain ⟨b,o,e,C⟩:=h i (by rw [lmA];exact A);exact ⟨b,o,e,by rw [C];simp [bv,A]⟩
def bp (s:CS):Int×CS:=((rdB (dW 8 s).1).toInt,(dW 8 s).2)
def NumP (w:As) (B C:Nat) (s:CS) (e:Ending) (w':As):Prop:=
 ∃a' n' c',e= .returned (.int .i64 (bp s).1)/\rj w' B C (bp s).2 a' n' c'/\aJ (fun x=>x=C) w w'
def Nv1 (w:As) (l:Le) (n:Nat) (f:Nat) (v i:Value) (wr:As):Prop:=
 ∃t:Nat,f+t=n/\i= .int .i64 (t:Int)/\v= .int .u64 (U64 (rdB (l.take t)))/\w=wr
theorem gi (B C:Nat) (s:CS) (a:Lt) (len cap:Nat) (w:As) (h:rj w B C s a len cap):
  Calls prog 82 #[.pointer (some ⟨C,0,none⟩)] w (NumP w B C s):=by
 go_enter func82,ntmps82;go_wp2_with fail;refine (pO B C s a len cap 8 _ h).mono ?_;rintro e w1 ⟨b,k,a',M,c',rfl,E,N,I,A⟩;have J:NumP w B C s (.returned (.int .i64 (rdB (dW 8 s).1).toInt)) w1:=⟨a',M,c',rfl,I,A⟩;have S:k<=8:=by
  rw [<-E];unfold dW;split
  .simp
  .simp only [ltA];exact Nat.min_le_left _ _
 generalize (dW 8 s).1=l at*;clear I A h;have D:=Hd E;clear E;go_wp2_with fail;go_loopg [3,5,9] k (fun f v _ i wr=>Nv1 w1 l k f v i wr)
 case atStart=>exact ⟨0,oA,rfl,by simp [rdB,U64],rfl⟩
 case round=>
  obtain ⟨t,L,rfl,rfl,rfl⟩:=hrel;have G:=Hd L;clear L;by_cases A:t<k
  .have O:decide ((t:Int)<(k:Int))=true:=VK oA;obtain ⟨T,U,rfl,V⟩:=aj.cellV N t (by rw [D.out];exact A);go_wp2_with fail;go_roundg (gk-1)
   case rel=>
    refine ⟨t+1,by have:=G.out;omega,gnA,?_,rfl⟩;have e:l.take (t+1)=l.take t++ [l[t]?.getD 0]:=by
     rw [Vj (by rw [D.out];exact A)];simp [D.out,A]
    rw [e,pf];rw [<-ua]
   case measure=>have:=G.out;omega
  .obtain rfl:t=k:=(by have:=G.out;omega);have O:decide ((t:Int)<(t:Int))=false:=skA;have P:l.take t=l:=VZ (by rw [D.out];omega);rw [P];go_wp2_with fail;go_ret;have R:wrap64 (U64 (rdB l))=(rdB l).toInt:=(by rw [<-lD];first|rfl|simp [VR,wrap64]);rw [<-R] at J;exact J
def gM (s:CS):Le×CS:=dW (bp s).1 (bp s).2
def NB (w:As) (B C:Nat) (s:CS) (e:Ending) (w':As):Prop:=
 ∃a' n' c',e= .returned (.string (dK (gM s).1))/\rj w' B C (gM s).2 a' n' c'/\aJ (fun x=>x=C) w w'
theorem pN (B C:Nat) (s:CS) (a:Lt) (len cap:Nat) (w:As) (h:rj w B C s a len cap):
  Calls prog 83 #[.pointer (some ⟨C,0,none⟩)] w (NB w B C s):=by
 go_enter func83,ntmps83;go_wp2_with fail;refine (gi B C s a len cap _ h).mono ?_;rintro e w1 ⟨N,n1,G,rfl,O,L⟩;go_wp2_with fail;refine (pO B C _ N n1 G (bp s).1 _ O).mono ?_;rintro e A ⟨b,k,P,R,c2,rfl,D,E,I,M⟩;have S:NB w B C s (.returned (.string (dK (gM s).1))) A:=⟨P,R,c2,rfl,I,L.trans M fun _ hx=> .inl hx⟩;have J:(gM s).1=(dW (bp s).1 (bp s).2).1:=rfl;rw [<-J] at D E;generalize (gM s).1=l at*;have T:(convert 22 9 (.slice b k G)).run prog A= .ok (.string (dK l)) A:=mO A underlying22 underlying5 underlying9 E D;clear J D E I;go_wp2_with fail;go_ret;exact S
def fQ:Nat->CS->List Int×CS
 |0,s=>([],s)
 |k+1,s=>((bp s).1::(fQ k (bp s).2).1,(fQ k (bp s).2).2)
def gP (s:CS):List Int×CS:=
 if (bp s).1<0\/(((bp s).2.b.length/8:Nat):Int)<(bp s).1 then ([],⟨(bp s).2.b,true⟩) else fQ (bp s).1.toNat (bp s).2
def NP (w:As) (B C:Nat) (s:CS) (e:Ending) (w':As):Prop:=
 ∃(l:Sl) (a':Lt) (n' c':Nat),e= .returned (.slice l.a l.n l.c)/\ax w' w.heap.size l (gP s).1/\rj w' B C (gP s).2 a' n' c'/\aJ (fun x=>x=C) w w'
def Lv1 (w:As) (B C N:Nat) (L:List Int×CS) (f:Nat) (v3 v23:Value) (wr:As):Prop:=
 ∃(i:Nat) (a:Lt) (c:Nat) (l:List Int) (s:CS) (a':Lt) (n' c':Nat),i+f=N/\v23= .int .i64 (i:Int)/\v3= .slice a i c/\l.length=i/\(∀x∈l,ff x)/\Own wr w.heap.size 3 1 a i c (l.map (Value.int .i64))/\rj wr B C s a' n' c'/\aJ (fun x=>x=C) w wr/\Hid (L=(l++(fQ f s).1,(fQ f s).2))
theorem uY (n:Int) (s:CS):(dW n s).2.b.length<=s.b.length:=by
 unfold dW;split
 .exact VU _
 .simp only [ldA];omega
theorem gd (s:CS):(bp s).2.b.length<=s.b.length:=uY 8 s
theorem jC (s:CS):ff (bp s).1:=by
 have:=Xv (x:=rdB (dW 8 s).1);have:=Xw (x:=rdB (dW 8 s).1);unfold bp ff;simp [Lit.wf,IntKind.min,IntKind.max,IntKind.signed,IntKind.bits];omega
theorem pR (B C:Nat) (s:CS) (a:Lt) (len cap:Nat) (w:As) (h:rj w B C s a len cap) (hB:B<=w.heap.size) (B0:B<=C) (hz:len<=1000000000):
  Calls prog 84 #[.pointer (some ⟨C,0,none⟩)] w (NP w B C s):=by
 have d:=h.cur.lt;have B1:=h.hl;go_enter func84,ntmps84;go_wp2_with fail;refine (gi B C s a len cap _ h).mono ?_;rintro e w1 ⟨S,n1,T,rfl,A,M⟩;clear h;have B2:n1<=1000000000:=by
  rw [<-A.hl];have B3:=gd s;omega
 have D:=Hd (show gP s=if (bp s).1<0\/(((bp s).2.b.length/8:Nat):Int)<(bp s).1 then ([],⟨(bp s).2.b,true⟩) else fQ (bp s).1.toNat (bp s).2 from rfl);obtain ⟨L,O⟩:=At (gP s);rw [<-O] at D;have g:=Hd O;clear O;generalize (bp s).1=N at*;generalize (bp s).2=y at*;have A2:=A.hl;rw [A2] at D;have c0:w1.cell? ⟨C,0,none⟩=some (.slice S n1 T):=A.cur.cell rfl;have U:w1.cell? ⟨C,1,none⟩=some (.bool y.bad):=A.cur.cell rfl;have f0:=A.cur.free;have tq:(n1:Int).tdiv 8=((n1/8:Nat):Int):=(by rw [WT oA];omega);by_cases I:N<0\/((n1/8:Nat):Int)<N
 .rw [Vz I] at D;have HP:∀V (e:Ending),V=w1.setCell ⟨C,1,none⟩ (.bool true)->e= .returned (.slice none 0 0)->NP w B C s e V:=by
   rintro V e rfl rfl;refine ⟨⟨none,0,0⟩,S,n1,T,rfl,?_⟩;rw [<-g.out,D];exact ⟨ax.nil _ _,⟨A.cur.set 1 (.bool true),aj.notCurV A.cur A.read 1 _,A.hl,A.h1,A.max,A.low⟩,M.one _⟩
  by_cases j:N<0
  .have t1:decide (N<0)=true:=VK j;clear D A I;go_wp2_with fail;go_ret;exact HP _ _ rfl rfl
  .have I:((n1/8:Nat):Int)<N:=oA;have t1:decide (N<0)=false:=VO j;have t2:decide (((n1/8:Nat):Int)<N)=true:=VK I;clear D A;go_wp2_with fail;go_ret;exact HP _ _ rfl rfl
 .rw [VV I] at D;obtain ⟨q,rfl⟩:∃q:Nat,N=(q:Int):=⟨N.toNat,oA⟩;rw [WN] at D;have hq:q<=n1/8:=oA;have t1:decide ((q:Int)<0)=false:=skA;have t2:decide (((n1/8:Nat):Int)<(q:Int))=false:=soA;have m:Lv1 w B C q L q (.slice none 0 0) (.int .i64 0) w1:=⟨0,none,0,[],y,S,n1,T,oA,rfl,rfl,rfl,fun x hx=>by simp at hx,Own.nil _ _ _ _,A,M,Hd (by rw [D];rfl)⟩;clear D A M;go_wp2_with fail;go_loopg [3,23] q (Lv1 w B C q L)
  case atStart=>exact m
  case round=>
   clear m;obtain ⟨i,a,c,l,s,a',n',c',hi,rfl,rfl,n,o,G,hc,X,J⟩:=hrel;by_cases B4:i<q
   .have t0:decide ((i:Int)<(q:Int))=true:=soA;have U:=gi B C s a' n' c' wr hc;have B5:=X.size;go_wp2_with fail;refine U.mono ?_;clear U;rintro e w3 ⟨a3,n3,c3,rfl,A3,p⟩;obtain ⟨gf,A4⟩:∃x,gk=x+1:=⟨gk-1,oA⟩;have E:=J.out;rw [A4] at E;have P:=Hd (show L=((l++ [(bp s).1])++(fQ gf (bp s).2).1,(fQ gf (bp s).2).2) from by rw [E];simp [fQ]);have A5:=jC s;clear J E;generalize (bp s).1=v at*;generalize (bp s).2=s3 at*;have A0:Own w3 w.heap.size 3 1 a i c (l.map (Value.int .i64)):=G.turn p (fun x hx=>by subst hx;exact d);have Z:=X.trans p fun _ hx=> .inl hx;have A6:=Z.size;have hA:=A0.alloc (.cells #[.int .i64 v] 3);go_wp2_with (at_builtin;refine al rfl _ _ 34 rfl sC rfl hA rfl (av.new' _ _ _ _ skA) rfA (by exact de _ rfl) mxA oA soA ?_);intro a6 c6 Y A1 A7;have R:Below w.heap.size w3 Y:=((VW _ _).alloc A6 _).trans (hA.grown (VW _ _) (VU _) A7 soA);have A8:rj Y B C s3 a3 n3 c3:=A3.keep (R.block C d) (R.mono hB);have A9:aJ (fun x=>x=C) w Y:=Z.trans (aJ.of_ge R) fun x hx=> .inr hx;go_wp2_with fail;go_roundg gf
    case measure=>omega
    case rel=>
     refine ⟨i+1,a6,c6,l++ [v],s3,a3,n3,c3,oA,gnA,rfl,by simp [n],?_,by simpa using A1,A8,A9,P⟩;intro x hx;rcases Ve.1 hx with hx|hx
     .exact o x hx
     .rw [VS.1 hx];exact A5
   .have t0:decide ((i:Int)<(q:Int))=false:=soA;have BY:gk=0:=oA;have E:=J.out;rw [BY] at E;have P:=Hd (show L=(l,s) from by rw [E];simp [fQ]);clear J E;go_wp2_with fail;go_ret;refine ⟨⟨a,i,c⟩,a',n',c',rfl,?_⟩;rw [<-g.out,P.out];exact ⟨⟨G,G.row,n,G.le,G.cap_le,by dsimp only;omega,o⟩,hc,X⟩
end
section
open Go.ChangeShapes Go.WideShapes Go.ChangeAt Go.RowKit
open Go.RowKit
def kL (s:ByteArray):Le:=s.data.toList
theorem cJ (s:ByteArray):(kL s).length=s.size:=rfl
theorem pJ {P:Program} {C:Array Oper} {rest:List Oper} {o:Oper} {a:Act} {w:As} {Q:Exit->Act->World->Prop} (G:o.guard=none) (src A:TypeId) (x:Operand) (I:o.op= .convert src A x)
  {e:TypeId} (J:P.underlying src=some .string) (L:P.underlying A=some (.slice e)) (M:P.underlying e=some (.int .u8)) {s:ByteArray} (hx:a.eval x= .string s)
  (h:∀c w',aj w' (some ⟨w.heap.size,0,none⟩) (kL s)->Below w.heap.size w w'->w.heap.size<w'.heap.size->wpList P C Q rest (a.put o.dst (.slice (some ⟨w.heap.size,0,none⟩) s.size c)) w'):wpList P C Q (o::rest) a w:=by
 refine XJ G fun K N=> ?_;unfold Oper.wp execOp;simp only [I,hx,run_bytes_of_string w src A e s J L M,Wp,Xk,WE];refine N _ _ (h _ _ ?_ ((VW _ _).drew.alloc skA _) skA);refine av.mk fun i E=> ?_;rw [lmA,cJ] at E;have O:w.heap.size=w.drew.heap.size:=rfl;rw [VN,O,Yl,bytesRow];have D:i<s.data.size:=E;rw [Array.getElem?_append_left (by simpa using D)];simp [kL,bv,U8];exact ⟨_,Array.getElem?_eq_getElem D,rfl⟩
end
section
open Go.RowKit
theorem jG {P:Program} {I:Array Oper} {rest:List Oper} {o:Oper} {a:Act} {w:As} {Q:Exit->Act->World->Prop} (S:o.guard=none) (E x:Operand) (t u:TypeId)
  (V:o.op= .call {callee:= .builtin .append,args:= #[E,x],argTypes:= #[t,u]}) {e:TypeId} (X:bC P t e 1 1) (Y:(P.info? e).bind (·.zero)=some (.int .u8 0)) (Z:P.underlying u=some .string)
  {B:Nat} {A:Lt} {n C:Nat} {G:AT} (b:a.eval E= .slice A n C) (O:Own w B e 1 A n C G) {s:ByteArray} (hx:a.eval x= .string s) (T:n+s.size<=140737488355328) (L:B<=w.heap.size)
  (h:∀a' c' w',Own w' B e 1 a' (n+s.size) c' (G++(kL s).map bv)->w.grownBy w' (Value.slice A n C).ownBlock->wpList P I Q rest (a.put o.dst (.slice a' (n+s.size) c')) w'):wpList P I Q (o::rest) a w:=by
 obtain ⟨c,p,i,z,J,y,M,U,A0⟩:=X;have N:i.zero=some (.int .u8 0):=(by simpa [J] using Y);refine Go.Lib.wpList_append_own_string w S E x t u V B e i c Z J N M U (.slice A n C) n G b O s hx mxA T L ?_;intro d w' D j _;have l:Go.Lib.strCells s=(kL s).map bv:=rfl;rw [l] at D;have R:∃a' c',d= .slice a' (n+s.size) c':=by
  rcases D.2 with ⟨rfl,m⟩|⟨g,cap,A1,rfl,_⟩
  .exact ⟨none,0,by rw [m]⟩
  .exact ⟨_,_,rfl⟩
 obtain ⟨a',c',rfl⟩:=R;exact h a' c' w' D j
end
section
open Go.RowKit
def eP (s:bB):Le:=be8 (s.size:Int)++kL s
def bj (p:ao):Le:=if p.kind=2 then [2]++be8 p.game++bZ p.act else [1]++be8 p.game++be8 p.table++eP p.fmt++eP p.n0++eP p.n1++iy p.d0++iy p.d1++iy p.dr
theorem jQ {p:ao} (h:iE p=true):p.kind=1\/p.kind=2:=by
 unfold iE nt at h;by_cases e:p.kind=1
 .exact .inl e
 .simp [e] at h;have A:=h.2;unfold EU at A;simp only [Vh,WW] at A;exact .inr A.1
def wV (w1:As) (l:Le) (v:Value) (wr:As):Prop:=
 ∃a n c,v= .slice a n c/\l.length=n/\Own wr w1.heap.size 5 1 a n c (l.map bv)/\Below w1.heap.size w1 wr
theorem wV.app {w1 wr C w3:As} {l m:Le} {a a':Lt} {n k c c':Nat} (E:l.length=n) (G:m.length=k) (h:Own wr w1.heap.size 5 1 a n c (l.map bv)) (D:Below w1.heap.size w1 wr) (A:Below wr.heap.size wr C)
  (I:Own w3 w1.heap.size 5 1 a' (n+k) c' (l.map bv++m.map bv)) (J:C.grownBy w3 (Value.slice a n c).ownBlock):wV w1 (l++m) (.slice a' (n+k) c') w3:=by
 refine ⟨a',n+k,c',rfl,by rw [laA,E,G],by rw [VF];exact I,?_⟩;exact (h.old A).grown (aa D A) (VU _) J (Vd D.size A.size)
def nC (p:ao):List bB:=[p.fmt,p.n0,p.n1]
def jL (p:ao):List (List Int):=[p.d0,p.d1,p.dr]
def xY (p:ao):Le:=[1]++be8 p.game++be8 p.table
theorem wH {p:ao} (h:p.kind=1):bj p=xY p++(nC p).flatMap eP++(jL p).flatMap iy:=by
 unfold bj xY nC jL;rw [VV (by rw [h];decide)];simp
section
variable (v1 v2 v3:Value) (W:As)
theorem ixs0 (a b c:bB):(Instr.index 135 (.agg #[.string a,.string b,.string c]) (.int .i64 0)).run prog W= .ok (.string a) W:=by kernel_rfl
theorem ixs1 (a b c:bB):(Instr.index 135 (.agg #[.string a,.string b,.string c]) (.int .i64 1)).run prog W= .ok (.string b) W:=by kernel_rfl
theorem ixs2 (a b c:bB):(Instr.index 135 (.agg #[.string a,.string b,.string c]) (.int .i64 2)).run prog W= .ok (.string c) W:=by kernel_rfl
theorem ixr0 (a b c:Lt) (n1 C D A c2 E:Nat):(Instr.index 136 (.agg #[.slice a n1 A,.slice b C c2,.slice c D E]) (.int .i64 0)).run prog W= .ok (.slice a n1 A) W:=by kernel_rfl
theorem ixr1 (a b c:Lt) (n1 A C D c2 E:Nat):(Instr.index 136 (.agg #[.slice a n1 D,.slice b A c2,.slice c C E]) (.int .i64 1)).run prog W= .ok (.slice b A c2) W:=by kernel_rfl
theorem ixr2 (a b c:Lt) (n1 D A E c2 C:Nat):(Instr.index 136 (.agg #[.slice a n1 E,.slice b D c2,.slice c A C]) (.int .i64 2)).run prog W= .ok (.slice c A C) W:=by kernel_rfl
end
def NA (w1:As) (p:ao) (f:Nat) (v4 i:Value) (wr:As):Prop:=
 ∃k:Nat,k+f=3/\i= .int .i64 (k:Int)/\wV w1 (xY p++((nC p).take k).flatMap eP) v4 wr
theorem vH {s:bB} (h:dm s=true):s.size<=40:=by
 unfold dm at h;simp only [Vh,WW] at h;exact h.2
theorem rh {p:ao} (h:iE p=true) (C:p.kind=1):(p.fmt.size<=40/\p.n0.size<=40/\p.n1.size<=40)/\p.d0.length<=60/\p.d1.length<=60/\p.dr.length<=256:=by
 unfold iE nt at h;simp [C] at h;have A:=h.2;unfold Ga at A;simp only [Vh,WW] at A;obtain ⟨a,b,c,d,e,f,-⟩:=A;exact ⟨⟨a,vH b,vH c⟩,d,e,f⟩
theorem uX {p:ao} (h:p.fmt.size<=40/\p.n0.size<=40/\p.n1.size<=40) (k:Nat):(xY p++((nC p).take k).flatMap eP).length<=200:=by
 unfold nC xY
 match k with
 |0=>simp [an]
 |1=>simp [an,eP,cJ];omega
 |2=>simp [an,eP,cJ];omega
 |k+3=>simp [an,eP,cJ];omega
def ms (p:ao):Le:=xY p++(nC p).flatMap eP
theorem pd {p:ao} (h:p.fmt.size<=40/\p.n0.size<=40/\p.n1.size<=40) (C:p.d0.length<=60/\p.d1.length<=60/\p.dr.length<=256) (k:Nat):(ms p++((jL p).take k).flatMap iy).length<=3300:=by
 have A:=uX h 3;rw [show (nC p).take 3=nC p from rfl] at A;rw [laA];unfold ms jL
 match k with
 |0=>simp;simp at A;omega
 |1=>simp [fG];simp at A;omega
 |2=>simp [fG];simp at A;omega
 |k+3=>simp [fG];simp at A;omega
def QA (w1:As) (p:ao) (f:Nat) (v4 i:Value) (wr:As):Prop:=
 ∃k:Nat,k+f=3/\i= .int .i64 (k:Int)/\wV w1 (ms p++((jL p).take k).flatMap iy) v4 wr
def QB (w1:As) (H:Le) (l:List Int) (N:Nat) (f:Nat) (v4 i:Value) (wr:As):Prop:=
 ∃k:Nat,k+f=N/\i= .int .i64 (k:Int)/\wV w1 (H++(l.take k).flatMap be8) v4 wr
def iK (w:As) (p:ao) (e:Ending) (w':As):Prop:=
 if iE p=true then ∃a c,e= .returned (.tuple #[.slice a (bj p).length c,.int .i64 0])/\Own w' w.heap.size 5 1 a (bj p).length c ((bj p).map bv)/\Below w.heap.size w w'
 else e= .returned (.tuple #[.slice none 0 0,.int .i64 2])/\Below w.heap.size w w'
theorem Ag (p:ao) (h:aY) (w:As) (hd:dp w p h) (hz:(bZ p.act).length<100000000000):
  Calls prog 28 #[dG p h] w (iK w p):=by
 obtain ⟨S,hS⟩:=At (iK w p);rw [<-hS];have HS:=Hd hS;clear hS;rw [aD];go_enter func28,ntmps28;go_upto_region 1 with fail;obtain ⟨X,hX⟩:=At w.heap.size;rw [<-hX];refine ag (fun W=>Blk W X (af p h).toArray 40/\Below w.heap.size w W) ⟨by subst hX;exact Blk.new w _ _,by subst hX;exact cL⟩ ?_;rintro W1 ⟨D9,D8⟩;have HC:w.heap.size<=X:=VM hX.symm;clear hX;go_wp2_with (refine ap rfl 40 aZ (.tmp 1) rfl rfl D9 rfl ?_);have cb:=yL p h W1 (hd.old D8);rw [aD] at cb;refine cb.mono ?_;clear cb;rintro e w1 ⟨rfl,hb⟩;have CK:=aa D8 hb;have B4:=D9.old hb;have C4:=hd.old CK;clear D9 D8 hb;cases hm:iE p with
 |false=>
  go_wp2_with fail;rw [HS.out];unfold iK;rw [hm];exact ⟨rfl,CK⟩
 |true=>
  obtain ⟨R,A6⟩:∃R:UInt8,R=if p.kind=2 then 2 else 1:=⟨_,rfl⟩;have G2:IntKind.u8.wrap p.kind=U8 R:=by
   rw [A6];rcases jQ hm with e|e<;>rw [e]<;>rfl
  have HB:p.kind%256=U8 R:=(by rw [<-G2];rfl);have E8:=Hd A6;clear A6;go_wp2_with fail;go_cut [4] (fun c wx=>wV w1 ([R]++be8 p.game) c wx)
  case first=>
   have k0:∀W,oX w1.heap.size w1.drew W->W.cell? ⟨X,0,none⟩=some (.int .i8 p.kind):=fun W hW=>(B4.drew.below hW B4.lt).cell rfl;have k1:∀W,oX w1.heap.size w1.drew W->W.cell? ⟨X,1,none⟩=some (.int .i64 p.game):=fun W hW=>(B4.drew.below hW B4.lt).cell rfl;refine rB w1.heap.size (.step 0 (.step 1 (.step 2 (.step 4 (.step 5 (.fork [(3,(.step 6 (.step 7 (.step 8 .done)))),(6,(.step 3 (.step 7 (.step 8 .done))))])))))) krA krA cdA ?_
   repeat refine txA ?_
   refine kT ?_;refine js rfl rfA (fun K M=> ?_) ?_
   .go_wp2_with fail;have hO:Own (w1.alloc (.cells #[.int .u8 (U8 R)] 5)) w1.heap.size 5 1 (some ⟨w1.heap.size,0,none⟩) 1 1 ([R].map bv):=Own.lit _ _ _ rfl rfl (VU _) mxA;refine M _ _ cL ?_;clear M K;refine am rfl rfl rfA (fun K M=> ?_);go_wp2_with fail;refine (eK p.game _).mono ?_;rintro e w2 ⟨rfl,C5,D0,G3⟩;have EE:=D0.size;simp at EE;have B5:=hO.drew.old D0;have C5:aj w2 (some ⟨w1.heap.size+1,0,none⟩) (be8 p.game):=(by simpa using C5);go_wp2_with fail;refine M _ _ cL ?_;clear M K
    repeat refine txA ?_
    refine am rfl rfl rfA (fun K M=> ?_);refine eF (.tmp 17) (.tmp 20) 22 rfl dU rfl B5 rfl C5 (by rw [lmA,an]) (cV _) mxA oA lA ?_;intro a' c' w3 EQ C6;have E0:Below w1.heap.size w1 w3:=B5.grown cL (VU _) C6 lA;refine M _ _ (by show Below _ _ _;exact B5.grown (VW _ _) (VU _) C6 lA) ?_;clear M K
    repeat refine txA ?_
    refine aq ?_;go_wp2_with fail;go_meet;exact ⟨a',9,c',rfl,by simp [an],by simpa using EQ,E0⟩
   .refine js rfl rfA (fun K M=> ?_) ?_
    .go_wp2_with fail;refine (eK p.game _).mono ?_;rintro e w2 ⟨rfl,C5,D0,G3⟩;have EE:=D0.size;simp at EE;go_wp2_with fail;refine M _ _ cL ?_;clear M K;refine am rfl rfl rfA (fun K M=> ?_);go_wp2_with fail;have B5:Own (w2.alloc (.cells #[.int .u8 (U8 R)] 5)) w1.heap.size 5 1 (some ⟨w2.heap.size,0,none⟩) 1 1 ([R].map bv):=Own.lit _ _ _ rfl rfl oA mxA;have G4:aj (w2.alloc (.cells #[.int .u8 (U8 R)] 5)) (some ⟨w1.heap.size,0,none⟩) (be8 p.game):=av.alloc C5 _;refine M _ _ cL ?_;clear M K;refine am rfl rfl rfA (fun K M=> ?_);refine eF (.tmp 17) (.tmp 20) 22 rfl dU rfl B5 rfl G4 (by rw [lmA,an]) (cV _) mxA oA lA ?_;intro a' c' w3 EQ C6;have E0:Below w1.heap.size w1 w3:=B5.grown cL (VU _) C6 lA;refine M _ _ (by show Below _ _ _;exact B5.grown (VW _ _) (VU _) C6 lA) ?_;clear M K
     repeat refine txA ?_
     refine aq ?_;go_wp2_with fail;go_meet;exact ⟨a',9,c',rfl,by simp [an],by simpa using EQ,E0⟩
    .exact mK
  case rest=>
   obtain ⟨a4,n4,c4,rfl,D1,C7,A7⟩:=hcut;have C8:=B4.old A7;have G5:=C4.old A7;have D2:n4=9:=(by rw [<-D1];simp [an]);rcases jQ hm with d|d
   .obtain ⟨⟨A8,I,B6⟩,⟨A9,J,B7⟩,⟨BY,L,B9⟩,ha⟩:=h;have A6:R=1:=(by rw [E8.out,VV (by rw [d];decide)]);have HK:=Hd d;have k0:wc.cell? ⟨X,0,none⟩=some (.int .i8 1):=(by rw [<-d];exact C8.cell rfl);have k2:wc.cell? ⟨X,2,none⟩=some (.int .i64 p.table):=C8.cell rfl;have T:=Hd (rh hm d);have HN:=Hd D2;clear D2 d;go_wp2_with fail;refine (eK p.table _).mono ?_;rintro e w5 ⟨rfl,E9,y,G6⟩;have G7:=y.size;have F7:=A7.size;go_upto_region 7 with (at_builtin;refine al rfl _ _ 22 rfl dU rfl (C7.old y) rfl E9 (by rw [lmA,an]) (cV _) (by have:=HN.out;unfold maxLen;omega) (by have:=HN.out;omega) oA ?_;intro a6 c6 w6 D3 D4);have D5:=wV.app (m:=be8 p.table) (k:=8) D1 (an _) C7 A7 y D3 D4;rw [A6] at D5;have HD:=aa A7 y;have D6:Blk w6 X (af p ⟨⟨A8,I,B6⟩,⟨A9,J,B7⟩,⟨BY,L,B9⟩,ha⟩).toArray 40:=by
     obtain ⟨_,_,_,_,_,_,hb⟩:=D5;exact B4.old hb
    have l3:w6.cell? ⟨X,3,none⟩=some (.string p.fmt):=D6.cell rfl;have l4:w6.cell? ⟨X,4,none⟩=some (.string p.n0):=D6.cell rfl;have l5:w6.cell? ⟨X,5,none⟩=some (.string p.n1):=D6.cell rfl;have i0:=fun W=>ixs0 W p.fmt p.n0 p.n1;have i1:=fun W=>ixs1 W p.fmt p.n0 p.n1;have i2:=fun W=>ixs2 W p.fmt p.n0 p.n1;have G8:=Hd D5;clear D5 D3 D4 C7 A7 y E9 G6 D1 k0 k2 C8 D6;go_wp2_with fail;go_loopg [4,6,44,45,46,47,48,49,50,51,52,53,54] 3 (fun f c _ i _ _ _ _ _ _ _ _ _ _ wr=>NA w1 p f c i wr)
    case atStart=>exact ⟨0,oA,rfl,by have h:=G8.out;simpa [xY] using h⟩
    case round=>
     obtain ⟨k,hf,rfl,a7,n7,c7,rfl,P,C,N⟩:=hrel;have n:=Hd hf;have F0:n7<=200:=(by rw [<-P];exact uX T.out.1 k);have U:=Hd P;clear hf P;by_cases d:k<3
     .have h3:k=0\/k=1\/k=2:=oA;have F8:=N.size;rcases h3 with rfl|rfl|rfl
      all_goals
       go_wp2_with fail
       refine (eK _ _).mono ?_
       rintro e w8 ⟨rfl,l,D,CW⟩
       have E1:=D.size
       have HG:=T.out.1
       go_wp2_with (first|(at_builtin;refine al rfl _ _ 22 rfl dU rfl (C.old D) rfl l (by rw [lmA,an]) (cV _) mxA oA oA ?_;intro a9 c9 w9 V Y)|(at_builtin;refine jG rfl _ _ 22 9 rfl dU krA underlying9 rfl V rfl oA (by have:=Y.size;omega) ?_;intro HH HI HJ F9 G0))
       have o:=wV.app (m:=be8 _) (k:=8) U.out (an _) C N D V Y
       obtain ⟨_,_,_,g,G9,G1,HA⟩:=o
       simp only [Vi] at g
       obtain ⟨rfl,rfl,rfl⟩:=g
       have q2:=wV.app (m:=kL _) G9 (cJ _) G1 HA (VW _ _) (by rw [VF];exact F9) G0
       go_wp2_with fail
       go_roundg (gk-1)
       case measure=>have:=n.out;omega
       case rel=>
        first
         |(refine ⟨1,by have:=n.out;omega,gnA,?_⟩;simpa [nC,eP] using q2)
         |(refine ⟨2,by have:=n.out;omega,gnA,?_⟩;simpa [nC,eP] using q2)
         |(refine ⟨3,by have:=n.out;omega,gnA,?_⟩;simpa [nC,eP] using q2)
     .have hk3:k=3:=(by have:=n.out;omega);have tk:decide ((k:Int)<3)=false:=soA;have E2:=Hd U.out;rw [hk3] at E2 C;clear U;have U:=E2;clear E2;have HL:=Hd hk3;clear hk3;have hin:=rq.of C4;have D7:=B4.old N;have l6:wr.cell? ⟨X,6,none⟩=some (.slice A8 I B6):=D7.cell rfl;have l7:wr.cell? ⟨X,7,none⟩=some (.slice A9 J B7):=D7.cell rfl;have l8:wr.cell? ⟨X,8,none⟩=some (.slice BY L B9):=D7.cell rfl;have j0:=fun W=>ixr0 W A8 A9 BY I J L B6 B7 B9;have j1:=fun W=>ixr1 W A8 A9 BY I J L B6 B7 B9;have j2:=fun W=>ixr2 W A8 A9 BY I J L B6 B7 B9;clear i0 i1 i2 l3 l4 l5;go_wp2_with fail;go_loopg [4,8,10,64,65,66,67,68,69,70,71,72,73,74,75,76,77,78,79,80,81,82,83] 3 (fun f c _ _ i _ _ _ _ _ _ _ _ _ _ _ _ _ _ _ _ _ _ _ wr=>QA w1 p f c i wr)
      case atStart=>exact ⟨0,oA,rfl,a7,n7,c7,rfl,by rw [<-U.out];simp [ms,nC],by simpa [ms,nC] using C,N⟩
      case round=>
       clear D7 l6 l7 l8 C N U F0;obtain ⟨k,hf,rfl,a7,n7,c7,rfl,P,C,N⟩:=hrel;have n:=Hd hf;have F0:n7<=3300:=(by rw [<-P];exact pd T.out.1 T.out.2 k);have U:=Hd P;clear hf P;by_cases d:k<3
       .have h3:k=0\/k=1\/k=2:=oA;have F8:=N.size;rcases h3 with rfl|rfl|rfl
        .have hrow:mC w1 ⟨A8,I,B6⟩ p.d0:=C4.d0;have C0:InB w1.heap.size A8 I:=hin.d0;have B0:p.d0.length=I:=hrow.2.1;have E4:I<=256:=(by have:=T.out.2;omega);have Z:=Hd B0;clear B0;go_wp2_with fail;refine (eK _ _).mono ?_;rintro e w8 ⟨rfl,l,D,CW⟩;have E1:=D.size;go_upto_region 16 with (at_builtin;refine al rfl _ _ 22 rfl dU rfl (C.old D) rfl l (by rw [lmA,an]) (cV _) mxA oA oA ?_;intro a9 c9 w9 V Y);have o:=Hd (wV.app (m:=be8 (I:Int)) (k:=8) U.out (an _) C N D V Y);clear V Y C N D l CW;go_wp2_with fail;go_loopg [4,10,74,75,76,77,78,79,80,81,82] I (fun f c _ i _ _ _ _ _ _ _ _ wr=>QB w1 (ms p++((jL p).take 0).flatMap iy++be8 (I:Int)) p.d0 I f c i wr)
         case atStart=>exact ⟨0,oA,rfl,by have h:=o.out;simpa using h⟩
         case round=>
          clear o;obtain ⟨j,B1,rfl,C9,B2,DO,rfl,A,E,G⟩:=hrel;have b:=Hd B1;have E6:B2<=3308+8*j:=by
           rw [<-A,laA,laA,an];have g:=pd T.out.1 T.out.2 0;have e2:((p.d0.take j).flatMap be8).length<=8*j:=by
            rw [jk an,ltA];omega
           omega
          have A2:=Hd A;clear B1 A;by_cases hj:j<I
          .have tj:decide ((j:Int)<(I:Int))=true:=soA;have B3:j<p.d0.length:=(by rw [Z.out];exact hj);have A0:fY wr A8 I B6 p.d0:=mC.low hrow C0 G;obtain ⟨b1,o1,g,A1⟩:=A0.1 j (by rw [lmA];exact B3);rw [WL] at A1;clear A0;subst g;have E5:=G.size;go_wp2_with fail;refine (eK _ _).mono ?_;rintro e F1 ⟨rfl,A3,O,C1⟩;have E7:=O.size;go_upto_region 20 with (at_builtin;refine al rfl _ _ 22 rfl dU rfl (E.old O) rfl A3 (by rw [lmA,an]) (cV _) mxA oA oA ?_;intro F2 F3 F4 A4 A5);have q3:=Hd (wV.app (m:=be8 p.d0[j]) (k:=8) A2.out (an _) E G O A4 A5);clear A4 A5 E G O A3 C1 A1;go_wp2_with fail;go_roundg (gk-1)
           case measure=>have:=b.out;omega
           case rel=>
            refine ⟨j+1,by have:=b.out;omega,gnA,?_⟩;rw [Vj B3,Wo,<-Vf];simpa using q3.out
          .obtain rfl:j=I:=(by have:=b.out;omega);have tj:decide ((j:Int)<(j:Int))=false:=skA;have C2:p.d0.take j=p.d0:=VZ (by rw [Z.out];omega);have A:=A2.out;rw [C2] at A E;have C3:=Hd A;clear A;go_wp2_with fail;go_roundg (3-1)
           case measure=>have:=n.out;omega
           case rel=>
            have e5:ms p++((jL p).take 1).flatMap iy=ms p++((jL p).take 0).flatMap iy++be8 (j:Int)++p.d0.flatMap be8:=by
             simp [jL,iy,Z.out]
            exact ⟨1,oA,gnA,C9,B2,DO,rfl,by rw [e5];exact C3.out,by rw [e5];exact E,G⟩
        .have hrow:mC w1 ⟨A9,J,B7⟩ p.d1:=C4.d1;have C0:InB w1.heap.size A9 J:=hin.d1;have B0:p.d1.length=J:=hrow.2.1;have E4:J<=256:=(by have:=T.out.2;omega);have Z:=Hd B0;clear B0;go_wp2_with fail;refine (eK _ _).mono ?_;rintro e w8 ⟨rfl,l,D,CW⟩;have E1:=D.size;go_upto_region 16 with (at_builtin;refine al rfl _ _ 22 rfl dU rfl (C.old D) rfl l (by rw [lmA,an]) (cV _) mxA oA oA ?_;intro a9 c9 w9 V Y);have o:=Hd (wV.app (m:=be8 (J:Int)) (k:=8) U.out (an _) C N D V Y);clear V Y C N D l CW;go_wp2_with fail;go_loopg [4,10,74,75,76,77,78,79,80,81,82] J (fun f c _ i _ _ _ _ _ _ _ _ wr=>QB w1 (ms p++((jL p).take 1).flatMap iy++be8 (J:Int)) p.d1 J f c i wr)
         case atStart=>exact ⟨0,oA,rfl,by have h:=o.out;simpa using h⟩
         case round=>
          clear o;obtain ⟨j,B1,rfl,C9,B2,DO,rfl,A,E,G⟩:=hrel;have b:=Hd B1;have E6:B2<=3308+8*j:=by
           rw [<-A,laA,laA,an];have g:=pd T.out.1 T.out.2 1;have e2:((p.d1.take j).flatMap be8).length<=8*j:=by
            rw [jk an,ltA];omega
           omega
          have A2:=Hd A;clear B1 A;by_cases hj:j<J
          .have tj:decide ((j:Int)<(J:Int))=true:=soA;have B3:j<p.d1.length:=(by rw [Z.out];exact hj);have A0:fY wr A9 J B7 p.d1:=mC.low hrow C0 G;obtain ⟨b1,o1,g,A1⟩:=A0.1 j (by rw [lmA];exact B3);rw [WL] at A1;clear A0;subst g;have E5:=G.size;go_wp2_with fail;refine (eK _ _).mono ?_;rintro e F1 ⟨rfl,A3,O,C1⟩;have E7:=O.size;go_upto_region 20 with (at_builtin;refine al rfl _ _ 22 rfl dU rfl (E.old O) rfl A3 (by rw [lmA,an]) (cV _) mxA oA oA ?_;intro F2 F3 F4 A4 A5);have q3:=Hd (wV.app (m:=be8 p.d1[j]) (k:=8) A2.out (an _) E G O A4 A5);clear A4 A5 E G O A3 C1 A1;go_wp2_with fail;go_roundg (gk-1)
           case measure=>have:=b.out;omega
           case rel=>
            refine ⟨j+1,by have:=b.out;omega,gnA,?_⟩;rw [Vj B3,Wo,<-Vf];simpa using q3.out
          .obtain rfl:j=J:=(by have:=b.out;omega);have tj:decide ((j:Int)<(j:Int))=false:=skA;have C2:p.d1.take j=p.d1:=VZ (by rw [Z.out];omega);have A:=A2.out;rw [C2] at A E;have C3:=Hd A;clear A;go_wp2_with fail;go_roundg (3-2)
           case measure=>have:=n.out;omega
           case rel=>
            have e5:ms p++((jL p).take 2).flatMap iy=ms p++((jL p).take 1).flatMap iy++be8 (j:Int)++p.d1.flatMap be8:=by
             simp [jL,iy,Z.out]
            exact ⟨2,oA,gnA,C9,B2,DO,rfl,by rw [e5];exact C3.out,by rw [e5];exact E,G⟩
        .have hrow:mC w1 ⟨BY,L,B9⟩ p.dr:=C4.dr;have C0:InB w1.heap.size BY L:=hin.dr;have B0:p.dr.length=L:=hrow.2.1;have E4:L<=256:=(by have:=T.out.2;omega);have Z:=Hd B0;clear B0;go_wp2_with fail;refine (eK _ _).mono ?_;rintro e w8 ⟨rfl,l,D,CW⟩;have E1:=D.size;go_upto_region 16 with (at_builtin;refine al rfl _ _ 22 rfl dU rfl (C.old D) rfl l (by rw [lmA,an]) (cV _) mxA oA oA ?_;intro a9 c9 w9 V Y);have o:=Hd (wV.app (m:=be8 (L:Int)) (k:=8) U.out (an _) C N D V Y);clear V Y C N D l CW;go_wp2_with fail;go_loopg [4,10,74,75,76,77,78,79,80,81,82] L (fun f c _ i _ _ _ _ _ _ _ _ wr=>QB w1 (ms p++((jL p).take 2).flatMap iy++be8 (L:Int)) p.dr L f c i wr)
         case atStart=>exact ⟨0,oA,rfl,by have h:=o.out;simpa using h⟩
         case round=>
          clear o;obtain ⟨j,B1,rfl,C9,B2,DO,rfl,A,E,G⟩:=hrel;have b:=Hd B1;have E6:B2<=3308+8*j:=by
           rw [<-A,laA,laA,an];have g:=pd T.out.1 T.out.2 2;have e2:((p.dr.take j).flatMap be8).length<=8*j:=by
            rw [jk an,ltA];omega
           omega
          have A2:=Hd A;clear B1 A;by_cases hj:j<L
          .have tj:decide ((j:Int)<(L:Int))=true:=soA;have B3:j<p.dr.length:=(by rw [Z.out];exact hj);have A0:fY wr BY L B9 p.dr:=mC.low hrow C0 G;obtain ⟨b1,o1,g,A1⟩:=A0.1 j (by rw [lmA];exact B3);rw [WL] at A1;clear A0;subst g;have E5:=G.size;go_wp2_with fail;refine (eK _ _).mono ?_;rintro e F1 ⟨rfl,A3,O,C1⟩;have E7:=O.size;go_upto_region 20 with (at_builtin;refine al rfl _ _ 22 rfl dU rfl (E.old O) rfl A3 (by rw [lmA,an]) (cV _) mxA oA oA ?_;intro F2 F3 F4 A4 A5);have q3:=Hd (wV.app (m:=be8 p.dr[j]) (k:=8) A2.out (an _) E G O A4 A5);clear A4 A5 E G O A3 C1 A1;go_wp2_with fail;go_roundg (gk-1)
           case measure=>have:=b.out;omega
           case rel=>
            refine ⟨j+1,by have:=b.out;omega,gnA,?_⟩;rw [Vj B3,Wo,<-Vf];simpa using q3.out
          .obtain rfl:j=L:=(by have:=b.out;omega);have tj:decide ((j:Int)<(j:Int))=false:=skA;have C2:p.dr.take j=p.dr:=VZ (by rw [Z.out];omega);have A:=A2.out;rw [C2] at A E;have C3:=Hd A;clear A;go_wp2_with fail;go_roundg (3-3)
           case measure=>have:=n.out;omega
           case rel=>
            have e5:ms p++((jL p).take 3).flatMap iy=ms p++((jL p).take 2).flatMap iy++be8 (j:Int)++p.dr.flatMap be8:=by
             simp [jL,iy,Z.out]
            exact ⟨3,oA,gnA,C9,B2,DO,rfl,by rw [e5];exact C3.out,by rw [e5];exact E,G⟩
       .obtain rfl:k=3:=(by have:=n.out;omega);have HE:=Hd (show bj p=ms p++(jL p).flatMap iy by rw [wH HK.out];rfl);have P:=U.out;rw [show (jL p).take 3=jL p from rfl,<-HE.out] at P C;go_wp2_with fail;rw [HS.out];unfold iK;rw [Vz hm,P];exact ⟨a7,c7,rfl,C.lower CK.size,aa CK N⟩
   .have A6:R=2:=(by rw [E8.out,Vz d]);have k0:wc.cell? ⟨X,0,none⟩=some (.int .i8 2):=(by rw [<-d];exact C8.cell rfl);have HE:=Hd (show bj p=[R]++be8 p.game++bZ p.act by unfold bj;rw [Vz d,A6]);have HN:=Hd D2;clear D2;have cb:=Bw wc p.act h.act G5.act hz;rw [dM] at cb;go_wp2_with (refine dC rfl 38 Is (.tmp 26) rfl rfl C8 (part:=aw p.act h.act) rfl rfl ?_);refine cb.mono ?_;clear cb;rintro e w5 ⟨a5,c5,rfl,F5,y⟩;obtain ⟨n5,E3⟩:∃n5,(bZ p.act).length=n5:=⟨_,rfl⟩;rw [E3] at F5 hz⊢;have G7:=y.size;have F7:=A7.size;go_wp2_with (at_builtin;refine al rfl _ _ 22 rfl dU rfl (C7.old y) rfl F5.row (by rw [lmA,E3,Vr]) (cV _) (by have:=HN.out;unfold maxLen;omega) (by have:=HN.out;omega) oA ?_);intro a6 c6 w6 D3 D4;obtain ⟨a7,n7,c7,F6,P,C,N⟩:=wV.app D1 E3 C7 A7 y (by rw [A6];exact D3) D4;rw [F6];clear F6;rw [<-HE.out] at P C;go_wp2_with fail;rw [HS.out];unfold iK;rw [Vz hm,P];refine ⟨a7,c7,rfl,C.lower CK.size,aa CK N⟩
end
end Go.Proofs.YtioigihakjlopaaGreat

import Derived.Test.YtioigihakjlopaaGreatVF08
namespace Go.Proofs.YtioigihakjlopaaGreat
open Go.Proofs.Tryz
set_option linter.unusedVariables false
set_option linter.unusedSimpArgs false
set_option maxHeartbeats 16000000
set_option maxRecDepth 100000
section
open Go.RowKit
structure DC where
 c:Nat
 a:Option Addr
 cap:Nat
 bs:List UInt8
 at_:Nat
 bad:Int
def DC.to (q:DC) (k:Nat) (b:Int):DC:={q with at_:=k,bad:=b}
def gB (q:DC):Array Value:= #[.slice q.a q.bs.length q.cap,.int .i64 (q.at_:Int),.int .i64 q.bad]
structure DAt (w:World) (B:Nat) (q:DC):Prop where
 ge:B<=q.c
 blk:Blk w q.c (gB q) 191
 row:ah w q.a q.bs
 low:InB B q.a q.bs.length
 le:q.at_<=q.bs.length
 max:q.bs.length<=1048576
 lo: -1<=q.bad
 hi:q.bad<=1048576
section
variable {w w' w'':World} {B:Nat} {q q' q'':DC}
theorem DAt.keep (h:DAt w B q) (hk:w'.heap[q.c]? =w.heap[q.c]?) (hb:Below B w w'):DAt w' B q:=
 ⟨h.ge,hk.trans h.blk,aw.low h.row h.low (fun h0=>by rw [Vz h0];rfl) hb,h.low,h.le,h.max,h.lo,h.hi⟩
theorem DAt.old (h:DAt w B q) (hb:Below w.heap.size w w') (hB:B<=w.heap.size):DAt w' B q:=h.keep (hb.block _ h.blk.lt) (hb.mono hB)
structure ep (B:Nat) (w:World) (q:DC) (w':World) (k:Nat) (b:Int):Prop where
 at':DAt w' B (q.to k b)
 turn:aJ (fun x=>x=q.c) w w'
theorem ep.trans {k k':Nat} {b b':Int} (h:ep B w q w' k b) (h':ep B w' (q.to k b) w'' k' b'):ep B w q w'' k' b':=
 ⟨h'.at',h.turn.trans h'.turn fun _ hx=> .inl hx⟩
theorem ep.refl (h:DAt w B q):ep B w q w q.at_ q.bad:=⟨h,aJ.refl _ _⟩
end
def bo {α:Type} (a0:Nat) (b0:Int) (rd:Nat->Rd α) (x:α) (k:Nat) (b:Int):Prop:=
 (0<=b0->b=b0)/\(b0<0->match rd a0 with
  | .ok y=>y.1=x/\b= -1/\k=y.2
  | .error p=>b=(p:Int))
theorem bo.seq {α β:Type} {a0 k1 k2:Nat} {b0 b1 b2:Int} {r:Nat->Rd α} {f:α->Nat->Rd β} {x:α} {y:β} (h1:bo a0 b0 r x k1 b1) (h2:bo k1 b1 (f x) y k2 b2):bo a0 b0 (fun a=>thn (r a) f) y k2 b2:=by
 refine ⟨fun h=> ?_,fun h=> ?_⟩
 .have e:=h1.1 h;rw [h2.1 (by rw [e];exact h),e]
 .have e:=h1.2 h;show match thn (r a0) f with| .ok y'=>_| .error p=>_
  cases hr:r a0 with
  |error p=>
   rw [hr] at e;have e:b1=(p:Int):=e;show b2=(p:Int);rw [h2.1 (by rw [e];omega),e]
  |ok z=>
   rw [hr] at e;obtain ⟨ex,eb,ek⟩:z.1=x/\b1= -1/\k1=z.2:=e;have h3:=h2.2 (by rw [eb];decide);rw [ek,<-ex] at h3;exact h3
theorem bo.ok {α:Type} {a0 k:Nat} {b0 b:Int} {rd:Nat->Rd α} {x:α} (h:b0<0->rd a0= .ok (x,k)/\b= -1) (h':0<=b0->b=b0):bo a0 b0 rd x k b:=
 ⟨h',fun hb=>by rw [(h hb).1];exact ⟨rfl,(h hb).2,rfl⟩⟩
theorem bo.mapRd {α:Type} {a0 k:Nat} {b0 b:Int} {rd rd':Nat->Rd α} {x:α} (h:bo a0 b0 rd x k b) (e:rd a0=rd' a0):bo a0 b0 rd' x k b:=
 ⟨h.1,fun hb=>by rw [<-e];exact h.2 hb⟩
def BD (bs:List UInt8) (a:Nat):Rd UInt8:=match bs[a]? with
 |none=> .error bs.length
 |some y=> .ok (y,a+1)
theorem oQ (w:World) (B:Nat) (q:DC) (p:Nat) (hq:DAt w B q) (hp:p<=1048576):
  Calls prog 153 #[.pointer (some ⟨q.c,0,none⟩),.int .i64 (p:Int)] w fun e w'=>e= .returned (.tuple #[])/\ep B w q w' q.at_ (if q.bad<0 then (p:Int) else q.bad):=by
 have hc:=hq.blk.rule;unfold gB at hc;have fz:=hq.blk.free;have hlo:=hq.lo;by_cases hb:q.bad<0
 .have d0:decide (q.bad<0)=true:=(by simpa using hb);rw [if_pos hb];go_enter func153,ntmps153;go_wp2_with fail;refine WF (v:= .tuple #[]) (Wx rfl _ _ _) rfl ⟨rfl,⟨⟨hq.ge,hq.blk.set 2 (.int .i64 (p:Int)),?_,hq.low,hq.le,hq.max,?_,?_⟩,(aJ.refl (fun x=>x=q.c) w).setCell (x:=⟨q.c,2,none⟩) (.inl rfl) _⟩⟩
  .exact aw.low hq.row hq.low (fun h0=>by show q.bs.map bv=[];rw [Vz h0];rfl) ((AT _ _).setCell hq.ge _)
  .show-1<=(p:Int);omega
  .show (p:Int)<=1048576;omega
 .have d0:decide (q.bad<0)=false:=(by simpa using hb);rw [if_neg hb];go_enter func153,ntmps153;go_wp2_with fail;refine WF (v:= .tuple #[]) (Wx rfl _ _ _) rfl ⟨rfl,ep.refl hq⟩
theorem OF (w:World) (B:Nat) (q:DC) (hq:DAt w B q) (hB:B<=w.heap.size):
  Calls prog 154 #[.pointer (some ⟨q.c,0,none⟩)] w fun e w'=>∃(y:UInt8) (k:Nat) (b:Int),e= .returned (.int .u8 (U8 y))/\ep B w q w' k b/\bo q.at_ q.bad (BD q.bs) y k b:=by
 have hc:=hq.blk.rule;unfold gB at hc;have hlo:=hq.lo;have hle:=hq.le;have hmx:=hq.max;by_cases hb:q.bad<0
 .have d0:decide (q.bad<0)=true:=(by simpa using hb);by_cases hl:q.at_<q.bs.length
  .have d1:decide ((q.bs.length:Int)<=(q.at_:Int))=false:=soA;have d2:decide (0<=q.bad)=false:=soA;go_enter func154,ntmps154;go_wp2_with fail;go_quiet (fail);go_upto_region 5 with (fail);refine af (fun W=>DAt W B q/\Below w.heap.size w W) ⟨hq.old cL hB,cL⟩ ?_;rintro w1 ⟨hq1,hb1⟩;clear hc;have c1:=hq1.blk.rule;unfold gB at c1;have f1:=hq1.blk.free;have hadd:IntKind.i64.wrap ((q.at_:Int)+1)=((q.at_+1:Nat):Int):=(by rw [VZ];omega);go_upto_region 6 with (fail);refine af (fun W=>DAt W B (q.to (q.at_+1) q.bad)/\aJ (fun x=>x=q.c) w W) ⟨⟨hq.ge,hq1.blk.set 1 (.int .i64 ((q.at_+1:Nat):Int)),?_,hq.low,hl,hmx,hlo,hq.hi⟩,(aJ.of_below (F:=fun x=>x=q.c) hb1).setCell (x:=⟨q.c,1,none⟩) (.inl rfl) _⟩ ?_
   .exact aw.low hq1.row hq.low (fun h0=>by show q.bs.map bv=[];rw [Vz h0];rfl) ((AT _ _).setCell hq.ge _)
   rintro w2 ⟨hq2,ht2⟩;clear c1 f1 hadd;obtain ⟨b,o,ha,hcell⟩:=hq2.row q.at_ (by rw [lmA];exact hl);rw [Wz] at hcell;unfold bv at hcell;have c2:=hq2.blk.rule;unfold gB DC.to at c2;dsimp only at c2 hcell;have ha':q.a=some ⟨b,o,none⟩:=ha;rw [ha'] at c2;have hsub:IntKind.i64.wrap (((q.at_+1:Nat):Int)-1)=(q.at_:Int):=(by rw [VZ];omega);have hsub2:IntKind.i64.wrap ((q.at_:Int)+1-1)=(q.at_:Int):=(by rw [VZ];omega);obtain ⟨y,hyd⟩:=Le (q.bs[q.at_]);have hcell':w2.cell? ⟨b,o+q.at_,none⟩=some (.int .u8 (U8 y)):=(by rw [hyd];exact hcell);have HYD:=Hd hyd;clear hyd hcell;go_quiet (fail);go_wp2_with fail;go_ret;refine ⟨y,q.at_+1,q.bad,rfl,⟨hq2.old cL (by have:=ht2.size;omega),ht2.drewN _⟩,bo.ok (fun _=>⟨?_,oA⟩) fun h=>rfl⟩;unfold BD;rw [Vx hl,HYD.out]
  .have he:q.at_=q.bs.length:=oA;have d1:decide ((q.bs.length:Int)<=(q.at_:Int))=true:=soA;have d1':decide (q.bs.length<=q.at_)=true:=soA;have HE:=Hd he;clear he;go_enter func154,ntmps154;go_wp2_with fail;go_quiet (fail);go_upto_region 2 with (fail);refine af (fun W=>DAt W B q/\Below w.heap.size w W) ⟨hq.old cL hB,cL⟩ ?_;rintro w1 ⟨hq1,hb1⟩;clear hc;have hc:=hq1.blk.rule;unfold gB at hc;have cw:=oQ w1 B q q.bs.length hq1 hmx;rw [if_pos hb] at cw;go_wp2_with fail;refine cw.mono ?_;clear cw;rintro e w2 ⟨rfl,hs⟩;clear hc;have c2:=hs.at'.blk.rule;unfold gB DC.to at c2;dsimp only at c2;have d3:decide ((0:Int)<=(q.bs.length:Int))=true:=skA;go_wp2_with fail;go_ret;refine ⟨0,q.at_,q.bs.length,rfl,⟨hs.at',(aJ.of_below hb1).trans hs.turn fun _ hx=> .inl hx⟩,fun h=>by omega,fun _=> ?_⟩;unfold BD;rw [WL (by rw [HE.out];exact Lt _)]
 .have d0:decide (q.bad<0)=false:=(by simpa using hb);have d2:decide (0<=q.bad)=true:=soA;go_enter func154,ntmps154;go_wp2_with fail;go_quiet (fail);go_wp2_with fail;go_ret;exact ⟨0,q.at_,q.bad,rfl,⟨hq.old cL hB,aJ.of_below cL⟩,fun _=>rfl,fun h=>absurd h oA⟩
def pE (bs:List UInt8) (i a:Nat):Rd (BitVec 64):=if bs.length<a+i then .error bs.length else .ok (rdB ((bs.drop a).take i),a+i)
theorem bo.part {bs:List UInt8} {i a0 k k':Nat} {b0 b b':Int} {m:BitVec 64} {y:UInt8} (h1:bo a0 b0 (pE bs i) m k b) (h2:bo k b (BD bs) y k' b'):bo a0 b0 (pE bs (i+1)) (m<<<8|||y.toBitVec.setWidth 64) k' b':=by
 refine ⟨fun h=> ?_,fun h=> ?_⟩
 .have e:=h1.1 h;rw [h2.1 (by rw [e];exact h),e]
 .have e:=h1.2 h;unfold pE at e⊢;by_cases hl:bs.length<a0+i
  .rw [if_pos hl] at e;have e:b=(bs.length:Int):=e;rw [if_pos oA];show b'=(bs.length:Int);rw [h2.1 (by rw [e];omega),e]
  .rw [if_neg hl] at e;obtain ⟨em,eb,ek⟩:rdB ((bs.drop a0).take i)=m/\b= -1/\k=a0+i:=e;have h3:=h2.2 (by rw [eb];decide);unfold BD at h3;rw [ek] at h3;by_cases hm:a0+i<bs.length
   .rw [Vx hm] at h3;obtain ⟨ey,eb',ek'⟩:bs[a0+i]=y/\b'= -1/\k'=a0+i+1:=h3;rw [if_neg oA];refine ⟨?_,eb',by rw [ek'];rfl⟩;show rdB ((bs.drop a0).take (i+1))=_;rw [VW (by rw [ldA];omega),oq,em,List.getElem_drop,ey]
   .rw [WL oA] at h3;rw [if_pos oA];exact h3
theorem bo.num {bs:List UInt8} {a0 k:Nat} {b0 b:Int} {m:BitVec 64} (h:bo a0 b0 (pE bs 8) m k b):bo a0 b0 (bB bs) m.toInt k b:=by
 refine ⟨h.1,fun hb=> ?_⟩;have e:=h.2 hb;unfold pE at e;unfold bB;by_cases hl:bs.length<a0+8
 .rw [if_pos hl] at e⊢;exact e
 .rw [if_neg hl] at e⊢;obtain ⟨em,eb,ek⟩:rdB ((bs.drop a0).take 8)=m/\b= -1/\k=a0+8:=e;exact ⟨by rw [em],eb,ek⟩
def NumD (w:World) (B:Nat) (q:DC) (f:Nat) (v3 v4:Value) (wr:World):Prop:=
 ∃(i k:Nat) (b:Int) (m:BitVec 64),i+f=8/\v4= .int .i64 (i:Int)/\v3= .int .u64 (U64 m)/\ep B w q wr k b/\bo q.at_ q.bad (pE q.bs i) m k b
theorem uE (w:World) (B:Nat) (q:DC) (hq:DAt w B q) (hB:B<=w.heap.size):
  Calls prog 126 #[.pointer (some ⟨q.c,0,none⟩)] w fun e w'=>∃(m:BitVec 64) (k:Nat) (b:Int),e= .returned (.int .i64 m.toInt)/\ep B w q w' k b/\bo q.at_ q.bad (bB q.bs) m.toInt k b:=by
 have hst:NumD w B q 8 (.int .u64 0) (.int .i64 0) w:=⟨0,q.at_,q.bad,0,rfl,rfl,rfl,ep.refl hq,bo.ok (fun hb=>⟨by unfold pE;rw [if_neg (by have:=hq.le;omega)];rfl,by have:=hq.lo;omega⟩) fun _=>rfl⟩;go_enter func126,ntmps126;go_wp2_with fail;go_loopg [3,4] 8 (NumD w B q)
 case atStart=>exact hst
 case round=>
  clear hst;obtain ⟨i,k,b,m,hi,rfl,rfl,hs,haf⟩:=hrel;by_cases hlt:i<8
  .have t0:decide ((i:Int)<8)=true:=soA;have cb:=OF wr B (q.to k b) hs.at' (At hB hs.turn.size);have hcc:(q.to k b).c=q.c:=rfl;rw [hcc] at cb;go_wp2_with fail;refine cb.mono ?_;clear cb;rintro e w2 ⟨y,k2,b2,rfl,hs2,haf2⟩;go_wp2_with fail;go_roundg (gk-1)
   case measure=>omega
   case rel=>exact ⟨i+1,k2,b2,m<<<8|||y.toBitVec.setWidth 64,oA,gnA,by exact WG _ (sL m y),hs.trans hs2,bo.part haf haf2⟩
  .have t0:decide ((i:Int)<8)=false:=soA;obtain rfl:i=8:=oA;have hcv:=kN m;go_wp2_with fail;go_ret;exact ⟨m,k,b,rfl,hs,bo.num haf⟩
theorem bo.small_bad {bs:List UInt8} {a0 k:Nat} {b0 b:Int} {n x:Int} (h:bo a0 b0 (bB bs) n k b) (hn:n< -128\/127<n):bo a0 b0 (dQ bs) x k (if b<0 then (a0:Int) else b):=by
 refine ⟨fun hb=> ?_,fun hb=> ?_⟩
 .rw [h.1 hb,if_neg oA]
 .have e:=h.2 hb;unfold dQ;cases hr:bB bs a0 with
  |error p=>
   rw [hr] at e;have e:b=(p:Int):=e;show _=(p:Int);rw [e,if_neg oA]
  |ok z=>
   obtain ⟨z1,z2⟩:=z;rw [hr] at e;obtain ⟨rfl,rfl,rfl⟩:z1=n/\b= -1/\k=z2:=e;dsimp only;rw [if_pos hn];rfl
theorem bo.small_ok {bs:List UInt8} {a0 k:Nat} {b0 b:Int} {n:Int} (h:bo a0 b0 (bB bs) n k b) (hn:¬(n< -128\/127<n)):bo a0 b0 (dQ bs) n k b:=by
 refine ⟨h.1,fun hb=> ?_⟩;have e:=h.2 hb;unfold dQ;cases hr:bB bs a0 with
 |error p=>
  rw [hr] at e;exact e
 |ok z=>
  obtain ⟨z1,z2⟩:=z;rw [hr] at e;obtain ⟨rfl,rfl,rfl⟩:z1=n/\b= -1/\k=z2:=e;dsimp only;rw [if_neg hn];exact ⟨rfl,rfl,rfl⟩
theorem Hr (w:World) (B:Nat) (q:DC) (hq:DAt w B q) (hB:B<=w.heap.size):
  Calls prog 125 #[.pointer (some ⟨q.c,0,none⟩)] w fun e w'=>∃(x:Int) (k:Nat) (b:Int),e= .returned (.int .i8 x)/\wf8 x/\ep B w q w' k b/\bo q.at_ q.bad (dQ q.bs) x k b:=by
 have hc:=hq.blk.rule;unfold gB at hc;have hle:=hq.le;have hmx:=hq.max;have cb:=uE w B q hq hB;go_enter func125,ntmps125;go_wp2_with fail;refine cb.mono ?_;clear cb;rintro e w2 ⟨m,k,b,rfl,hs,haf⟩;obtain ⟨n,hnd⟩:=Le m.toInt;rw [<-hnd] at haf⊢;clear hnd hc;have hB2:=At hB hs.turn.size;have cw:=oQ w2 B (q.to k b) q.at_ hs.at' oA;have hcc:(q.to k b).c=q.c:=rfl;rw [hcc] at cw;have hbad:(q.to k b).bad=b:=rfl;have hat:(q.to k b).at_=k:=rfl;rw [hbad,hat] at cw;have wz:wf8 0:=(by show (Lit.int .i8 0).wf=true;decide);by_cases h1:n< -128
 .have t1:decide (n< -128)=true:=(by simpa using h1);go_wp2_with fail;refine cw.mono ?_;clear cw;rintro e w3 ⟨rfl,hs3⟩;go_wp2_with fail;go_ret;exact ⟨0,k,_,rfl,wz,hs.trans hs3,bo.small_bad haf (.inl h1)⟩
 have t1:decide (n< -128)=false:=(by simpa using h1);by_cases h2:127<n
 .have t2:decide (127<n)=true:=(by simpa using h2);go_wp2_with fail;refine cw.mono ?_;clear cw;rintro e w3 ⟨rfl,hs3⟩;go_wp2_with fail;go_ret;exact ⟨0,k,_,rfl,wz,hs.trans hs3,bo.small_bad haf (.inr h2)⟩
 have t2:decide (127<n)=false:=(by simpa using h2);have hwr:IntKind.i8.wrap n=n:=by
  simp only [IntKind.wrap,IntKind.bits,IntKind.signed];simp;omega
 have wn:wf8 n:=by
  simp [wf8,Lit.wf,IntKind.min,IntKind.max,IntKind.signed,IntKind.bits];omega
 clear cw;go_wp2_with fail;go_ret;exact ⟨n,k,b,rfl,wn,hs,bo.small_ok haf oA⟩
def lC (bs:List UInt8) (each:Nat) (a0:Nat):Rd Nat:=match bB bs a0 with
 | .error p=> .error p
 | .ok (n,a)=>if n<0\/((bs.length:Int)-a).tdiv each<n then .error a0 else .ok (n.toNat,a)
theorem bo.count_bad {bs:List UInt8} {each a0 k:Nat} {b0 b:Int} {n:Int} {x:Nat} (h:bo a0 b0 (bB bs) n k b) (hn:b<0->n<0\/((bs.length:Int)-k).tdiv each<n):bo a0 b0 (lC bs each) x k (if b<0 then (a0:Int) else b):=by
 refine ⟨fun hb=> ?_,fun hb=> ?_⟩
 .rw [h.1 hb,if_neg oA]
 .have e:=h.2 hb;unfold lC;cases hr:bB bs a0 with
  |error p=>
   rw [hr] at e;have e:b=(p:Int):=e;show _=(p:Int);rw [e,if_neg oA]
  |ok z=>
   obtain ⟨z1,z2⟩:=z;rw [hr] at e;obtain ⟨rfl,rfl,rfl⟩:z1=n/\b= -1/\k=z2:=e;dsimp only;rw [if_pos (hn dcA)];rfl
theorem bo.count_ok {bs:List UInt8} {each a0 k:Nat} {b0 b:Int} {n:Int} (h:bo a0 b0 (bB bs) n k b) (hb':b<0) (hn:¬(n<0\/((bs.length:Int)-k).tdiv each<n)):bo a0 b0 (lC bs each) n.toNat k b:=by
 refine ⟨h.1,fun hb=> ?_⟩;have e:=h.2 hb;unfold lC;cases hr:bB bs a0 with
 |error p=>
  rw [hr] at e;exact e
 |ok z=>
  obtain ⟨z1,z2⟩:=z;rw [hr] at e;obtain ⟨rfl,rfl,rfl⟩:z1=n/\b= -1/\k=z2:=e;dsimp only;rw [if_neg hn];exact ⟨rfl,rfl,rfl⟩
theorem CU (w:World) (B:Nat) (q:DC) (each:Nat) (hq:DAt w B q) (hB:B<=w.heap.size) (he1:0<each) (he2:each<=100):
  Calls prog 128 #[.pointer (some ⟨q.c,0,none⟩),.int .i64 (each:Int)] w fun e w'=>∃(n k:Nat) (b:Int),e= .returned (.int .i64 (n:Int))/\n<=1048576/\(0<=b->n=0)/\ep B w q w' k b/\bo q.at_ q.bad (lC q.bs each) n k b:=by
 have hc:=hq.blk.rule;unfold gB at hc;have hle:=hq.le;have hmx:=hq.max;have cb:=uE w B q hq hB;go_enter func128,ntmps128;go_wp2_with fail;refine cb.mono ?_;clear cb;rintro e w2 ⟨m,k,b,rfl,hs,haf⟩;obtain ⟨n,hnd⟩:=Le m.toInt;rw [<-hnd] at haf⊢;have hn64: -9223372036854775808<=n/\n<9223372036854775808:=by
  have h1:=Xh (x:=m);have h2:=Xi (x:=m);rw [hnd];simp at h1 h2;omega
 clear hnd hc;have hk:k<=q.bs.length:=hs.at'.le;have hc:=hs.at'.blk.rule;unfold gB DC.to at hc;dsimp only at hc;have hbl:=hs.at'.lo;have hbl: -1<=b:=hbl;have hB2:=At hB hs.turn.size;have hsub:IntKind.i64.wrap ((q.bs.length:Int)-(k:Int))=(q.bs.length:Int)-(k:Int):=(by rw [VZ];omega);obtain ⟨z,hz⟩:=Le (((q.bs.length:Int)-(k:Int)).tdiv each);have hz0:0<=z/\z<=1048576:=by
  rw [hz,WH oA];exact ⟨Int.ediv_nonneg oA oA,Int.le_trans (Int.ediv_le_self _ oA) oA⟩
 have hzw:IntKind.i64.wrap (((q.bs.length:Int)-(k:Int)).tdiv each)=z:=(by rw [<-hz,VZ];omega);have hne:((each:Int)==0)=false:=soA;have hne2:(each:Int)≠0:=oA;have HZ:=Hd hz;clear hz;by_cases hb:b<0
 .have d0:decide (b<0)=true:=(by simpa using hb);have d2:decide (0<=b)=false:=soA;by_cases h1:n<0
  .have t1:decide (n<0)=true:=(by simpa using h1);go_wp2_with fail;go_quiet (fail);go_upto_region 4 with (fail);refine af (fun W=>ep B w q W k b) ⟨hs.at'.old cL hB2,hs.turn.drewN _⟩ ?_;intro w3 hs3;have cw:=oQ w3 B (q.to k b) q.at_ hs3.at' oA;have hcc:(q.to k b).c=q.c:=rfl;have hbad:(q.to k b).bad=b:=rfl;have hat:(q.to k b).at_=k:=rfl;rw [hcc,hbad,hat,if_pos hb] at cw;go_wp2_with fail;refine cw.mono ?_;clear cw;rintro e w4 ⟨rfl,hs4⟩;have c4:=hs4.at'.blk.rule;unfold gB DC.to at c4;dsimp only at c4;have d3:decide ((0:Int)<=(q.at_:Int))=true:=skA;go_wp2_with fail;go_ret;refine ⟨0,k,q.at_,rfl,oA,fun _=>rfl,hs3.trans hs4,?_⟩;have:=bo.count_bad (x:=0) (each:=each) haf (fun _=> .inl h1);rwa [if_pos hb] at this
  .have t1:decide (n<0)=false:=(by simpa using h1);by_cases h2:z<n
   .have t2:decide (z<n)=true:=(by simpa using h2);go_wp2_with fail;go_quiet (fail);go_upto_region 4 with (fail);refine af (fun W=>ep B w q W k b) ⟨hs.at'.old cL hB2,hs.turn.drewN _⟩ ?_;intro w3 hs3;have cw:=oQ w3 B (q.to k b) q.at_ hs3.at' oA;have hcc:(q.to k b).c=q.c:=rfl;have hbad:(q.to k b).bad=b:=rfl;have hat:(q.to k b).at_=k:=rfl;rw [hcc,hbad,hat,if_pos hb] at cw;go_wp2_with fail;refine cw.mono ?_;clear cw;rintro e w4 ⟨rfl,hs4⟩;have c4:=hs4.at'.blk.rule;unfold gB DC.to at c4;dsimp only at c4;have d3:decide ((0:Int)<=(q.at_:Int))=true:=skA;go_wp2_with fail;go_ret;refine ⟨0,k,q.at_,rfl,oA,fun _=>rfl,hs3.trans hs4,?_⟩;have:=bo.count_bad (x:=0) (each:=each) haf (fun _=> .inr (by rw [<-HZ.out];exact h2));rwa [if_pos hb] at this
   .have t2:decide (z<n)=false:=(by simpa using h2);go_wp2_with fail;go_quiet (fail);go_wp2_with fail;go_ret;refine ⟨n.toNat,k,b,by (rw [Int.toNat_of_nonneg oA];rfl),oA,fun h=>by omega,⟨hs.at'.old cL hB2,hs.turn.drewN _⟩,bo.count_ok haf hb ?_⟩;rw [<-HZ.out];omega
 .have d0:decide (b<0)=false:=(by simpa using hb);have d2:decide (0<=b)=true:=soA;go_wp2_with fail;go_quiet (fail);go_wp2_with fail;go_ret;refine ⟨0,k,b,rfl,oA,fun _=>rfl,⟨hs.at'.old cL hB2,hs.turn.drewN _⟩,?_⟩;have:=bo.count_bad (x:=0) (each:=each) haf (fun h=>by omega);rwa [if_neg oA] at this
theorem kG (m:BitVec 64):eO m.toInt:=by
 have h1:=Xh (x:=m);have h2:=Xi (x:=m);simp at h1 h2;simp [eO,Lit.wf,IntKind.min,IntKind.max,IntKind.signed,IntKind.bits];omega
section
variable {α:Type} {a0 k k':Nat} {b0 b b':Int} {rd:Nat->Rd α} {x:α} {l:List α} {n:Nat}
theorem bo.none (h: -1<=b):bo k b (bC rd 0) [] k b:=⟨fun _=>rfl,fun h'=>⟨rfl,oA,rfl⟩⟩
theorem bo.many (h1:bo a0 b0 rd x k b) (h2:bo k b (bC rd n) l k' b'):bo a0 b0 (bC rd (n+1)) (x::l) k' b':=by
 refine ⟨fun h=> ?_,fun h=> ?_⟩
 .have e:=h1.1 h;rw [h2.1 (by rw [e];exact h),e]
 .have e:=h1.2 h;unfold bC;cases hr:rd a0 with
  |error p=>
   rw [hr] at e;have e:b=(p:Int):=e;show b'=(p:Int);rw [h2.1 (by rw [e];omega),e]
  |ok z=>
   rw [hr] at e;obtain ⟨z1,z2⟩:=z;obtain ⟨rfl,rfl,rfl⟩:z1=x/\b= -1/\k=z2:=e;have h3:=h2.2 dcA;cases hm:bC rd n k with
   |error p=>
    rw [hm] at h3;simpa [hm] using h3
   |ok y=>
    rw [hm] at h3;obtain ⟨y1,y2⟩:=y;obtain ⟨rfl,rfl,rfl⟩:y1=l/\b'= -1/\k'=y2:=h3;simp [hm]
theorem bo.list {bs:List UInt8} {each:Nat} (h1:bo a0 b0 (lC bs each) n k b) (h2:bo k b (bC rd n) l k' b'):bo a0 b0 (ik bs each rd) l k' b':=by
 refine (bo.seq (f:=fun n a=>bC rd n a) h1 h2).mapRd ?_;unfold lC ik;cases bB bs a0 with
 |error p=>rfl
 |ok z=>
  obtain ⟨z1,z2⟩:=z;dsimp only;by_cases hc:z1<0\/((bs.length:Int)-z2).tdiv each<z1
  .rw [if_pos hc,if_pos hc];rfl
  .rw [if_neg hc,if_neg hc];rfl
end
theorem DAt.rx {w w':World} {B:Nat} {q:DC} {T:TypeId} (h:DAt w B q) (hr:Rx B T w w') (hT:191≠T):DAt w' B q:=
 ⟨h.ge,hr.blk h.blk hT,aw.low h.row h.low (fun h0=>by rw [Vz h0];rfl) hr.1,h.low,h.le,h.max,h.lo,h.hi⟩
theorem ep.grown {w wr w':World} {B n c sz k:Nat} {b:Int} {q:DC} {T:TypeId} {a:Option Addr} {vs:List Value} (h:ep B w q wr k b) (hB:B<=w.heap.size) (ho:Own wr w.heap.size T sz a n c vs) (hg:wr.grownBy w' (Value.slice a n c).ownBlock) (hT:191≠T):ep B w q w' k b:=by
 have hz:=h.turn.size;have hb:Below w.heap.size wr w':=ho.grown (AT _ _) (Lt _) hg hz;exact ⟨h.at'.rx (Rx.grown ho hB (At hB hz) hg) hT,h.turn.trans (aJ.of_ge hb) fun x hx=> .inr hx⟩
theorem ep.alloc {w wr:World} {B k:Nat} {b:Int} {q:DC} (h:ep B w q wr k b) (hB:B<=w.heap.size) (o:Obj):ep B w q (wr.alloc o) k b:=by
 have hb:Below wr.heap.size wr (wr.alloc o):=(AT _ _).alloc (Lt _) o;exact ⟨h.at'.old hb (At hB h.turn.size),h.turn.trans (aJ.of_below (F:=fun x=>x=q.c) hb) fun x hx=> .inl hx⟩
def Mr (w:World) (B:Nat) (q:DC) (N:Nat) (f:Nat) (v3 v5:Value) (wr:World):Prop:=
 ∃(i k:Nat) (b:Int) (a:Option Addr) (c:Nat) (l:List Int),i+f=N/\v5= .int .i64 (i:Int)/\v3= .slice a i c/\l.length=i/\(∀x∈l,eO x)/\Own wr w.heap.size 3 1 a i c (l.map (Value.int .i64))/\ep B w q wr k b/\Hid (∀m k' b',bo k b (bC (bB q.bs) f) m k' b'->bo q.at_ q.bad (gA q.bs) (l++m) k' b')
theorem KW (w:World) (B:Nat) (q:DC) (hq:DAt w B q) (hB:B<=w.heap.size):
  Calls prog 127 #[.pointer (some ⟨q.c,0,none⟩)] w fun e w'=>∃(s:Sl) (l:List Int) (k:Nat) (b:Int),e= .returned (.slice s.a s.n s.c)/\av w' w.heap.size s l/\ep B w q w' k b/\bo q.at_ q.bad (gA q.bs) l k b:=by
 have cb:=CU w B q 8 hq hB dcA dcA;go_enter func127,ntmps127;go_wp2_with fail;refine cb.mono ?_;clear cb;rintro e w2 ⟨N,k0,b0,rfl,hN,hN0,hs0,haf0⟩;have hst:Mr w B q N N (.slice none 0 0) (.int .i64 0) w2:=⟨0,k0,b0,none,0,[],oA,rfl,rfl,rfl,fun x hx=>by simp at hx,Own.nil _ _ _ _,hs0,Hd fun m k' b' h=>haf0.list h⟩;clear haf0;go_wp2_with fail;go_loopg [3,5] N (Mr w B q N)
 case atStart=>exact hst
 case round=>
  clear hst;obtain ⟨i,k,b,a,c,l,hi,rfl,rfl,hll,hwf,hown,hs,haf⟩:=hrel;by_cases hlt:i<N
  .have t0:decide ((i:Int)<(N:Int))=true:=soA;have cb:=uE wr B (q.to k b) hs.at' (At hB hs.turn.size);have hcc:(q.to k b).c=q.c:=rfl;rw [hcc] at cb;have hzr:=hs.turn.size;go_wp2_with fail;refine cb.mono ?_;clear cb;rintro e w3 ⟨m,k3,b3,rfl,hs3,haf3⟩;have hwm:=kG m;generalize m.toInt=v at*;have hs4:=hs.trans hs3;have hown3:Own w3 w.heap.size 3 1 a i c (l.map (Value.int .i64)):=hown.turn hs3.turn (fun x hx=>by subst hx;have:=hq.blk.lt;exact this);have hz3:=hs4.turn.size;have hs5:=hs4.alloc hB (.cells #[.int .i64 v] 3);have hA:=hown3.alloc (.cells #[.int .i64 v] 3);go_wp2_with (at_builtin;refine al rfl _ _ 34 rfl rB rfl hA rfl (aw.new' _ _ _ _ skA) rfA (by exact dg _ rfl) mxA oA soA ?_);intro a6 c6 w6 hown6 hg6;have hs6:=hs5.grown hB hA hg6 dcA;obtain ⟨gf,hgf⟩:∃x,gk=x+1:=⟨gk-1,oA⟩;have haf6:=haf.out;rw [hgf] at haf6;have HAF:=Hd (show ∀m k' b',bo k3 b3 (bC (bB q.bs) gf) m k' b'->bo q.at_ q.bad (gA q.bs) ((l++ [v])++m) k' b' from fun m k' b' h=>by
    rw [VM];exact haf6 _ _ _ (bo.many haf3 h))
   clear haf6 haf;go_wp2_with fail;go_roundg gf
   case measure=>omega
   case rel=>
    refine ⟨i+1,k3,b3,a6,c6,l++ [v],oA,gnA,rfl,by simp [hll],?_,by simpa using hown6,hs6,HAF⟩;intro x hx;rcases VQ.1 hx with hx|hx
    .exact hwf x hx
    .rw [VH.1 hx];exact hwm
  .have t0:decide ((i:Int)<(N:Int))=false:=soA;have hg0:gk=0:=oA;have haf6:=haf.out;rw [hg0] at haf6;have h7:=haf6 [] k b (bo.none hs.at'.lo);rw [Wq] at h7;have H7:=Hd h7;clear haf6 haf h7;go_wp2_with fail;go_ret;exact ⟨⟨a,i,c⟩,l,k,b,rfl,⟨hown,hown.row,hll,hown.le,hown.cap_le,by dsimp only;omega,hwf⟩,hs,H7.out⟩
end
end Go.Proofs.YtioigihakjlopaaGreat

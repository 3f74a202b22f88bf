import Derived.Test.YtioigihakjlopaaGreatVR03
namespace Go.Proofs.YtioigihakjlopaaGreat
open Go.Proofs.Tryz
set_option linter.unusedVariables false
set_option linter.unusedSimpArgs false
set_option maxHeartbeats 16000000
set_option maxRecDepth 100000
section
open Go.RowKit
structure RC where
 c:Nat
 a:Lt
 cap:Nat
 bs:Le
 at_:Nat
def RC.to (q:RC) (a:Nat):RC:={q with at_:=a}
def iu (q:RC):AS:= #[.slice q.a q.bs.length q.cap,.int .i64 (q.at_:Int),.bool true]
structure RAt (w:As) (B:Nat) (q:RC):Prop where
 ge:B<=q.c
 blk:Blk w q.c (iu q) 184
 row:aj w q.a q.bs
 low:InB B q.a q.bs.length
 le:q.at_<=q.bs.length
 max:q.bs.length<=1048576
def mH (p:Nat):List PanicEntry:=[{v:= .iface 218 (.agg #[.int .i64 (p:Int)]),recovered:=false}]
section
variable {w w' w'':As} {B:Nat} {q q' q'':RC}
theorem RAt.keep (h:RAt w B q) (A:w'.heap[q.c]? =w.heap[q.c]?) (C:Below B w w'):RAt w' B q:=
 ⟨h.ge,A.trans h.blk,av.low h.row h.low (fun D=>by rw [VX D];rfl) C,h.low,h.le,h.max⟩
theorem RAt.old (h:RAt w B q) (A:Below w.heap.size w w') (C:B<=w.heap.size):RAt w' B q:=h.keep (A.block _ h.blk.lt) (A.mono C)
structure mB (B:Nat) (w:As) (q:RC) (w':As) (q':RC) (xb:Nat) (cs:AS) (t:TypeId):Prop where
 at':RAt w' B q'
 turn:aJ (fun x=>x=q.c\/x=xb) w w'
 blk:Blk w' xb cs t
theorem mB.below {xb:Nat} {cs:AS} {t:TypeId} (h:mB B w q w' q' xb cs t) (C:RAt w B q) (hx:B<=xb) (D:B<=w.heap.size):Below B w w':=h.turn.below (fun x A=>by
 rcases A with rfl|rfl
 .exact C.ge
 .exact hx) D
theorem Blk.uniq {b:Nat} {cs cs':AS} {t:TypeId} (h:Blk w b cs t) (h':Blk w b cs' t):cs=cs':=by
 have C:w.heap[b]? =_:=h;have A:w.heap[b]? =_:=h';rw [C] at A;simpa using A
structure gK (w:As) (q:RC) (w':As) (xb:Nat) (t:TypeId):Prop where
 turn:aJ (fun x=>x=q.c\/x=xb) w w'
 blk:∀cs,Blk w xb cs t->∃cs',Blk w' xb cs' t/\cs'.size=cs.size
variable {xb Y:Nat} {t tY:TypeId} {cs cs':AS}
theorem gK.below (h:gK w q w' xb t) (C:RAt w B q) (hx:B<=xb) (D:B<=w.heap.size):Below B w w':=h.turn.below (fun x A=>by
 rcases A with rfl|rfl
 .exact C.ge
 .exact hx) D
theorem gK.keep (A:aJ (fun x=>x=q.c) w w') (C:xb≠q.c) (D:xb<w.heap.size):gK w q w' xb t:=
 ⟨A.mono fun _ h=> .inl h,fun cs h=>⟨cs,(A.block xb D C).trans h,rfl⟩⟩
theorem gK.of (hx:Blk w xb cs t) (C:aJ (fun x=>x=q.c\/x=xb) w w') (A:Blk w' xb cs' t) (D:cs'.size=cs.size):gK w q w' xb t:=
 ⟨C,fun c h=>⟨cs',A,by rw [D,hx.uniq h]⟩⟩
theorem gK.after (h:mB B w q w' q' xb cs' t) (hx:Blk w xb cs t) (C:cs'.size=cs.size) (A:gK w' q'' w'' xb t) (D:q''.c=q.c):gK w q w'' xb t:=by
 obtain ⟨c2,E,F⟩:=A.blk _ h.blk;exact gK.of hx (h.turn.trans A.turn fun x hx=> .inl (by rwa [D] at hx)) E (F.trans C)
theorem gK.pre {w0:As} (A:Below w0.heap.size w0 w) (h:gK w q w' xb t):gK w0 q w' xb t:=
 ⟨(aJ.of_below (F:=fun x=>x=q.c\/x=xb) A).trans h.turn (fun _ C=> .inl C),fun cs hx=>h.blk cs (hx.old A)⟩
theorem sB {w1:As} (A:Below w.heap.size w w1) (C:aJ (fun x=>x=q'.c\/x=Y) w1 w') (D:w.heap.size<=Y) (E:q'.c=q.c):aJ (fun x=>x=q.c) w w':=
 (aJ.of_below (F:=fun x=>x=q.c) A).trans C fun x hx=>by
  rcases hx with rfl|rfl
  .exact .inl E
  .exact .inr D
theorem gK.loc {w1:As} (C:Below w.heap.size w w1) (h:gK w1 q' w' Y tY) (D:w.heap.size<=Y) (E:q'.c=q.c) (A:xb≠q.c) (F:xb<w.heap.size):gK w q w' xb t:=gK.keep (sB C h.turn D E) A F
theorem mB.loc {w1:As} (C:Below w.heap.size w w1) (h:mB B w1 q' w' q'' Y cs tY) (D:w.heap.size<=Y) (E:q'.c=q.c) (A:xb≠q.c) (F:xb<w.heap.size):gK w q w' xb t:=gK.keep (sB C h.turn D E) A F
theorem gK.drewN (h:gK w q w' xb t) (n:Nat):gK w q (w'.drewN n) xb t:=⟨h.turn.drewN n,h.blk⟩
end
theorem Nl (w:As) (B:Nat) (q:RC) (E:Nat) (z:Int) (C:RAt w B q) (hB:B<=w.heap.size) (S:Blk w E #[.int .u8 z] 5) (m:B<=E):
  Calls prog 179 #[.pointer (some ⟨q.c,0,none⟩),.pointer (some ⟨E,0,none⟩)] w fun e w'=>(q.at_=q.bs.length->e= .panicked (mH q.at_)/\gK w q w' E 5)/\(∀J:q.at_<q.bs.length,e= .returned (.tuple #[])/\mB B w q w' (q.to (q.at_+1)) E #[.int .u8 (U8 q.bs[q.at_])] 5):=by
 have T:=C.blk.rule;unfold iu at T;have P:=C.blk.lt;have n:=S.lt;have s:=C.max;have A6:=C.le;by_cases J:q.at_<q.bs.length
 .obtain ⟨b,o,L,G⟩:=C.row q.at_ (by simpa using J);have Z:b<w.heap.size:=Vx w _ G;have A7:b<B:=C.low oA _ L;rw [WL] at G;unfold bv at G;rw [L] at T;have t0:((q.at_:Int)==(q.bs.length:Int))=false:=soA;go_enter func179,ntmps179;go_wp2_with fail;have D:∀W,Old w.drew W->∀i,W.cell? ⟨q.c,i,none⟩=(iu q)[i]? :=fun W A i=>(by rw [A.cell (p:=⟨q.c,i,none⟩) P];exact C.blk.rule i);have N:∀W,Old w.drew W->W.cell? ⟨q.c,0,none⟩=some (.slice (some ⟨b,o,none⟩) q.bs.length q.cap):=fun W A=>(by rw [D W A 0];unfold iu;rw [L];rfl);have O:∀W,Old w.drew W->W.cell? ⟨q.c,1,none⟩=some (.int .i64 (q.at_:Int)):=fun W A=>(by rw [D W A 1];rfl);clear D;refine aB (0::1::2::3::4::5::6::7::8::9::[]) krA krA cdA ?_
  repeat refine lxA ?_
  refine bJ ?_;go_upto_region 4 with fail;have A4:q.c<w.drew.heap.size:=P;clear N O;have F:Below w.heap.size w w.drew:=cL;obtain ⟨w1,d⟩:=At w.drew;rw [<-d] at F⊢;have M:=C.old F hB;have H:=S.old F;have U:w1.cell? ⟨b,o+q.at_,none⟩=some (.int .u8 (U8 q.bs[q.at_])):=(by rw [F.cell (p:=⟨b,o+q.at_,none⟩) Z];exact G);clear d;have V:=VP Z F.size;have X:=M.blk.lt;have l:=H.lt;have D:∀W,Old w1.drew W->∀i,W.cell? ⟨q.c,i,none⟩=(iu q)[i]? :=fun W A i=>(by rw [A.cell (p:=⟨q.c,i,none⟩) X];exact M.blk.rule i);have N:∀W,Old w1.drew W->W.cell? ⟨q.c,0,none⟩=some (.slice (some ⟨b,o,none⟩) q.bs.length q.cap):=fun W A=>(by rw [D W A 0];unfold iu;rw [L];rfl);have O:∀W,Old w1.drew W->W.cell? ⟨q.c,1,none⟩=some (.int .i64 (q.at_:Int)):=fun W A=>(by rw [D W A 1];rfl);have j:∀W,Old w1.drew W->W.cell? ⟨b,o+q.at_,none⟩=some (.int .u8 (U8 q.bs[q.at_])):=fun W A=>(by rw [A.cell (p:=⟨b,o+q.at_,none⟩) V];exact U);obtain ⟨y,R⟩:=At (q.bs[q.at_]);rw [<-R] at j;have A0:=Hd R;clear R;have cy:=H.rule;have fy:=H.free;clear D G U;refine ah true Old Old.refl Old.trans (.step 0 (.step 1 (.step 2 (.step 3 (.step 4 (.step 5 (.step 6 (.step 7 (.step 8 (.step 9 (.step 10 (.step 11 (.step 12 .done))))))))))))) krA krA cdA ?_
  repeat refine txA ?_
  refine az rfl rfl rfA (fun K hK=> ?_);go_wp2_with fail;refine aq ?_;go_upto_region 5 with fail;have g:E≠q.c:=H.ne M.blk dcA;refine ag (fun W=>Blk W E #[.int .u8 (U8 y)] 5/\RAt W B q/\aJ (fun x=>x=q.c\/x=E) w W) ⟨?_,?_,?_⟩ ?_
  .exact (H.set 0 (.int .u8 (U8 y))).drew
  .exact M.keep (Vq _ _ _ _ (Vl g)) ((VW _ _).setCell m _).drew
  .exact ((aJ.of_below F).setCell (.inl (.inr rfl)) _).drew
  rintro W2 ⟨A1,I,A2⟩;have c2:=I.blk.rule;have f2:=I.blk.free;unfold iu at c2;have A5:IntKind.i64.wrap ((q.at_:Int)+1)=((q.at_+1:Nat):Int):=(by rw [VR];omega);clear N O j cy fy T F V X l;go_wp2_with fail;refine WR (v:= .tuple #[]) (WZ rfl _ _ _) rfl ⟨fun e=>absurd e (Nat.ne_of_lt J),fun _=>⟨rfl,⟨⟨C.ge,?_,?_,C.low,J,s⟩,A2.setCell (.inl (.inl rfl)) _,?_⟩⟩⟩
  .have:=I.blk.set 1 (.int .i64 ((q.at_+1:Nat):Int));unfold iu at this;simpa [iu,RC.to,L] using this
  .exact av.low I.row I.low (fun h0=>by show q.bs.map bv=[];rw [VX h0];rfl) ((VW _ _).setCell C.ge _)
  .rw [<-A0.out];exact (Vq _ _ _ _ g).trans A1
 .have he:q.at_=q.bs.length:=oA;have t0:((q.at_:Int)==(q.bs.length:Int))=true:=(by simp [he]);have HE:=Hd he;have D:∀W,Old w.drew W->∀i,W.cell? ⟨q.c,i,none⟩=(iu q)[i]? :=fun W A i=>(by rw [A.cell (p:=⟨q.c,i,none⟩) P];exact C.blk.rule i);have N:∀W,Old w.drew W->W.cell? ⟨q.c,0,none⟩=some (.slice q.a q.bs.length q.cap):=fun W A=>(by rw [D W A 0];rfl);have O:∀W,Old w.drew W->W.cell? ⟨q.c,1,none⟩=some (.int .i64 (q.at_:Int)):=fun W A=>(by rw [D W A 1];rfl);clear D he;go_enter func179,ntmps179;go_wp2_with fail;refine aB (0::1::2::3::4::5::6::7::8::9::[]) krA krA cdA ?_
  repeat refine lxA ?_
  refine bJ ?_;go_wp2_with fail;exact ⟨rfl,fun _=>⟨rfl,gK.keep ((aJ.refl _ _).drew) (S.ne C.blk dcA) n⟩,fun A3=>absurd A3 J⟩
theorem lD (a:BitVec 64):IntKind.i64.wrap (U64 a)=a.toInt:=by
 rw [VR];unfold U64;have:=a.isLt;rw [BitVec.toInt_eq_toNat_cond];split<;>omega
theorem pf (l:Le) (y:UInt8):rdB (l++ [y])=(rdB l<<<8|||y.toBitVec.setWidth 64):=by
 unfold rdB;rw [ZS];rfl
theorem mB.chain {w w' w'':As} {B:Nat} {q q' q'':RC} {xb:Nat} {cs cs':AS} {t:TypeId} (h:mB B w q w' q' xb cs t) (h':mB B w' q' w'' q'' xb cs' t) (A:q'.c=q.c):mB B w q w'' q'' xb cs' t:=
 ⟨h'.at',h.turn.trans h'.turn (fun k C=> .inl (by rwa [A] at C)),h'.blk⟩
theorem oz (x:Int):BitVec.ofInt 64 (IntKind.u64.wrap x)=BitVec.ofInt 64 x:=by
 apply Wx;rw [XU,XU];simp only [IntKind.wrap,IntKind.bits,IntKind.signed];simp
theorem Fd (x:BitVec 64):IntKind.u64.wrap (x.toNat:Int)=U64 x:=by
 have:=x.isLt;simp only [U64,IntKind.wrap,IntKind.bits,IntKind.signed];simp;omega
theorem Eu (x y:Int):bits .or .u64 x y=U64 (BitVec.ofInt 64 x|||BitVec.ofInt 64 y):=Fd _
theorem ua (a:BitVec 64) (y:UInt8):bits .or .u64 (IntKind.u64.wrap (U64 a*256)) (IntKind.u64.wrap (U8 y))=U64 (a<<<8|||y.toBitVec.setWidth 64):=by
 rw [Eu,oz,oz];congr 2
 .apply Wx;rw [XU,Xs,YZ];unfold U64;omega
 .apply Wx;rw [XU,Xj];unfold U8;have h:y.toBitVec.toNat=y.toNat:=rfl;rw [h];omega
def NumR (w:As) (B:Nat) (q:RC) (f:Nat) (v4 v5:Value) (wr:As):Prop:=
 ∃(k:Nat),k+f=8/\v5= .int .i64 (56-8*(k:Int))/\v4= .int .u64 (U64 (rdB ((q.bs.drop q.at_).take k)))/\RAt wr B (q.to (q.at_+k))/\aJ (fun x=>x=q.c) w wr
theorem De (w:As) (B:Nat) (q:RC) (xb i:Nat) (cs:AS) (t:TypeId) (v:Int) (X:RAt w B q) (s:B<=w.heap.size) (hx:Blk w xb cs t) (hi:cs[i]? =some (.int .i64 v)) (g:B<=xb) (L:xb≠q.c):
  Calls prog 148 #[.pointer (some ⟨q.c,0,none⟩),.pointer (some ⟨xb,i,none⟩)] w fun e w'=>(q.bs.length<q.at_+8->e= .panicked (mH q.bs.length)/\gK w q w' xb t)/\
   (q.at_+8<=q.bs.length->e= .returned (.tuple #[])/\mB B w q w' (q.to (q.at_+8)) xb (cs.setIfInBounds i (.int .i64 (rdB ((q.bs.drop q.at_).take 8)).toInt)) t):=by
 have S:=hx.lt;have A0:=X.max;go_enter func148,ntmps148;go_wp2_with fail;go_loopg [4,5] 8 (NumR w B q)
 case atStart=>exact ⟨0,rfl,rfl,by simp [rdB,U64],X,aJ.refl _ _⟩
 case round=>
  obtain ⟨k,I,rfl,rfl,E,A⟩:=hrel;have G:Blk wr xb cs t:=(A.block xb S L).trans hx;have cx:wr.cell? ⟨xb,i,none⟩=some (.int .i64 v):=(G.rule i).trans hi;have T:=E.le;unfold RC.to at T;dsimp only at T;have M:=Vd s A.size;by_cases A1:k<8
  .have t0:decide ((0:Int)<=56-8*(k:Int))=true:=soA;have v3:(0:Int)<=56-8*(k:Int):=oA;have v4:(56-8*(k:Int)).toNat=56-8*k:=oA;have v5:IntKind.i64.wrap (56-8*(k:Int)-8)=56-8*((k+1:Nat):Int):=(by rw [VR];omega);go_upto_region 5 with fail;obtain ⟨z,U⟩:=At (IntKind.u64.wrap v/2^(56-8*k)%256);rw [<-U];clear U v4;have H:Below wr.heap.size wr (wr.alloc (.cells #[.int .u8 z] 5)):=(VW _ _).alloc (VU _) _;have j:Blk (wr.alloc (.cells #[.int .u8 z] 5)) wr.heap.size #[.int .u8 z] 5:=Blk.new wr _ _;have C:=Nl _ B (q.to (q.at_+k)) wr.heap.size z (E.old H M) (Vd M H.size) j M;have N:(q.to (q.at_+k)).c=q.c:=rfl;rw [N] at C;by_cases d:q.at_+k<q.bs.length
   .go_wp2_with fail;refine C.mono ?_;clear C;rintro e D ⟨-,R⟩;obtain ⟨rfl,J⟩:=R d;have Z:=J.blk.rule;obtain ⟨y,O⟩:=At (q.bs[q.at_+k]);have A2:D.cell? ⟨wr.heap.size,0,none⟩=some (.int .u8 (U8 y)):=(by rw [O];exact Z 0);clear Z;have V:(q.bs.drop q.at_).take (k+1)=(q.bs.drop q.at_).take k++ [y]:=by
     rw [Vj (by rw [ldA];omega),O];simp
    have l:=Hd V;have m:aJ (fun x=>x=q.c) w D:=A.trans ((aJ.of_below (F:=fun x=>x=q.c) H).trans J.turn fun x hx=>by
     rcases hx with rfl|rfl
     .exact .inl rfl
     .exact .inr (VU _)) fun _ I=> .inl I
    have n:RAt D B (q.to (q.at_+(k+1))):=J.at';clear V O J G;go_wp2_with fail;go_roundg (gk-1)
    case measure=>omega
    case rel=>
     refine ⟨k+1,oA,gnA,?_,n,m⟩;rw [l.out,pf];exact WS _ (ua _ y)
   .go_wp2_with fail;refine C.mono ?_;clear C;rintro e D ⟨R,-⟩;have P:q.at_+k=q.bs.length:=oA;obtain ⟨rfl,o⟩:=R P;have p:gK w q D xb t:=gK.keep (A.trans ((aJ.of_below (F:=fun x=>x=q.c) H).trans o.turn fun x hx=>by
     rcases hx with rfl|rfl
     .exact .inl rfl
     .exact .inr (VU _)) fun _ I=> .inl I) L S
    have W:=Hd P;clear P;go_wp2_with fail;refine ⟨rfl,fun _=>⟨?_,p⟩,fun h=> ?_⟩
    .have e:(q.to (q.at_+k)).at_=q.bs.length:=W.out;rw [e]
    .have:=W.out;omega
  .have hk8:k=8:=oA;subst hk8;have b:=E.blk.rule;unfold iu at b;have N:(q.to (q.at_+8)).c=q.c:=rfl;rw [N] at b;have fx:=G.free;have hn:=lD (rdB ((q.bs.drop q.at_).take 8));go_wp2_with fail;refine WR (v:= .tuple #[]) (WZ rfl _ _ _) rfl ⟨fun h=>by omega,fun _=>⟨rfl,?_⟩⟩;refine ⟨E.keep (Vq _ _ _ _ (Vl L)) ((VW _ _).setCell g _),(A.mono fun _ h=> .inl h).setCell (.inl (.inr rfl)) _,?_⟩;have:=G.set i (.int .i64 (rdB ((q.bs.drop q.at_).take 8)).toInt);exact this
def eu (cs:AS) (i:Nat):AT->AS
 | []=>cs
 |v::l=>eu (cs.setIfInBounds i v) (i+1) l
theorem mQ:∀(l m:AT) (cs:AS) (i:Nat),eu cs i (l++m)=eu (eu cs i l) (i+l.length) m
 | [],m,cs,i=>rfl
 |v::l,m,cs,i=>by
  rw [Xf,eu,eu,mQ l m,VC,WM,Zx 1]
theorem fk:∀(l:AT) (cs:AS) (i:Nat),(eu cs i l).size=cs.size
 | [],cs,i=>rfl
 |v::l,cs,i=>by rw [eu,fk l];simp
theorem iv:∀(l:AT) (cs:AS) (i j:Nat),j<i\/i+l.length<=j->(eu cs i l)[j]? =cs[j]?
 | [],cs,i,j,_=>rfl
 |v::l,cs,i,j,h=>by
  rw [eu,iv l _ _ _ (by simp at h;omega)];rw [Vs];rw [VV (by simp at h;omega)]
theorem nK:∀(l:AT) (cs:AS) (i j:Nat),i+l.length<=cs.size->∀A:j<l.length,(eu cs i l)[i+j]? =some l[j]
 |v::l,cs,i,0,h,_=>by
  rw [eu,iv l _ _ _ oA];rw [VC] at h;rw [Vs];simp;omega
 |v::l,cs,i,j+1,h,A=>by
  rw [VC] at h;have:=nK l (cs.setIfInBounds i v) (i+1) j soA (by simpa using A);rw [eu,show i+(j+1)=i+1+j by omega,this];rfl
theorem AG {cs:AS} {l:AT} (h:cs.size=l.length):eu cs 0 l=l.toArray:=by
 apply XA;intro j;by_cases A:j<l.length
 .have:=nK l cs 0 j oA A;rw [VN] at this;rw [this];simp [A]
 .rw [Wz (by rw [fk];omega),Wz (by simpa using A)]
def Aa (cs:AS) (i:Nat) (l:AT):Prop:=∀j (hj:j<l.length),cs[i+j]? =some l[j]
def ii (bs:Le) (a:Nat):Int:=(rdB ((bs.drop a).take 8)).toInt
def Lf {α:Type} (B:Nat) (w:As) (q:RC) (r:Rd α) (f:α->AS) (xb:Nat) (t:TypeId) (e:Ending) (w':As):Prop:=match r with
 | .error p=>e= .panicked (mH p)/\gK w q w' xb t
 | .ok (v,a)=>e= .returned (.tuple #[])/\mB B w q w' (q.to a) xb (f v) t
abbrev uf (bs:Le) (a m:Nat):AT:=(List.range m).map fun j=> .int .i64 (ii bs (a+8*j))
def QE (w:As) (B:Nat) (q:RC) (xb i:Nat) (cs:AS) (t:TypeId) (m:Nat) (f:Nat) (v8:Value) (wr:As):Prop:=
 ∃k:Nat,k+f=m/\v8= .int .i64 (k:Int)/\q.at_+8*k<=q.bs.length/\mB B w q wr (q.to (q.at_+8*k)) xb (eu cs i (uf q.bs q.at_ k)) t
theorem Hp (w:As) (B:Nat) (q:RC) (g m xb i:Nat) (cs:AS) (t:TypeId) (D:RAt w B q) (Z:B<=w.heap.size) (L:Blk w g ((List.range m).map fun j=>Value.pointer (some ⟨xb,i+j,none⟩)).toArray 209) (P:g≠q.c) (R:g≠xb) (hx:Blk w xb cs t) (b:∀j,j<m->∃v,cs[i+j]? =some (.int .i64 v)) (S:B<=xb) (T:xb≠q.c) (o:m<=8):
  Calls prog 146 #[.pointer (some ⟨q.c,0,none⟩),.slice (some ⟨g,0,none⟩) m m] w fun e w'=>(q.bs.length<q.at_+8*m->e= .panicked (mH q.bs.length)/\gK w q w' xb t)/\
   (q.at_+8*m<=q.bs.length->e= .returned (.tuple #[])/\mB B w q w' (q.to (q.at_+8*m)) xb (eu cs i (uf q.bs q.at_ m)) t):=by
 have l:=D.max;go_enter func146,ntmps146;go_wp2_with fail;go_loopg [8] m (QE w B q xb i cs t m)
 case atStart=>exact ⟨0,oA,rfl,D.le,D,aJ.refl _ _,hx⟩
 case round=>
  obtain ⟨k,p,rfl,n,A⟩:=hrel;by_cases H:k<m
  .have t0:decide ((k:Int)<(m:Int))=true:=soA;have I:Blk wr g _ _:=(A.turn.block g L.lt (by rintro (h|h);exact P h;exact R h)).trans L;have s:wr.cell? ⟨g,k,none⟩=some (.pointer (some ⟨xb,i+k,none⟩)):=(by rw [I.rule];simp [H]);obtain ⟨v,M⟩:=b k H;have J:(eu cs i (uf q.bs q.at_ k))[i+k]? =some (.int .i64 v):=(by rw [iv _ _ _ _ skA];exact M);have E:=De wr B (q.to (q.at_+8*k)) xb (i+k) _ t v A.at' (Vd Z A.turn.size) A.blk J S T;have U:(q.to (q.at_+8*k)).c=q.c:=rfl;rw [U] at E;clear I M J;go_wp2_with fail;refine E.mono ?_;clear E;rintro e N ⟨F,G⟩;by_cases O:q.at_+8*k+8<=q.bs.length
   .obtain ⟨rfl,C⟩:=G O;have V:mB B w q N (q.to (q.at_+8*(k+1))) xb (eu cs i (uf q.bs q.at_ (k+1))) t:=by
     have d:eu cs i (uf q.bs q.at_ (k+1))=(eu cs i (uf q.bs q.at_ k)).setIfInBounds (i+k) (.int .i64 (ii q.bs (q.at_+8*k))):=by
      unfold uf;rw [YT,VF,mQ];simp [eu]
     rw [d];exact ⟨C.at',(A.chain (q'':=q.to (q.at_+8*k+8)) C rfl).turn,C.blk⟩
    clear F G C;go_wp2_with fail;go_roundg (gk-1)
    case measure=>omega
    case rel=>exact ⟨k+1,oA,gnA,oA,V⟩
   .obtain ⟨rfl,W⟩:=F (by show q.bs.length<q.at_+8*k+8;omega);have X:gK w q N xb t:=gK.after A hx (fk _ _ _) W rfl;clear F G;go_wp2_with fail;exact ⟨rfl,fun _=>⟨rfl,X⟩,fun h=>by omega⟩
  .have hkm:k=m:=oA;subst hkm;have t0:decide ((k:Int)<(k:Int))=false:=skA;go_wp2_with fail;refine WR (v:= .tuple #[]) (WZ rfl _ _ _) rfl ⟨fun h=>by omega,fun _=>⟨rfl,A⟩⟩
theorem Je (w:As) (B:Nat) (q:RC) (xb i:Nat) (cs:AS) (t:TypeId) (z:Int) (O:RAt w B q) (b:B<=w.heap.size) (hx:Blk w xb cs t) (d:cs[i]? =some (.int .i8 z)) (m:B<=xb) (H:xb≠q.c):
  Calls prog 145 #[.pointer (some ⟨q.c,0,none⟩),.pointer (some ⟨xb,i,none⟩)] w (Lf B w q (ed q.bs q.at_) (fun n=>cs.setIfInBounds i (.int .i8 n)) xb t):=by
 have I:=hx.lt;have o:=O.blk.lt;go_enter func145,ntmps145;go_wp2_with fail;have r1:∀W,Old w.drew W->W.cell? ⟨q.c,1,none⟩=some (.int .i64 (q.at_:Int)):=fun W P=>(by rw [P.cell (p:=⟨q.c,1,none⟩) o];exact O.blk.rule 1);have r2:∀W,Old w.drew W->W.cell? ⟨xb,i,none⟩=some (.int .i8 z):=fun W P=>(by rw [P.cell (p:=⟨xb,i,none⟩) I];exact (hx.rule i).trans d);refine ah true Old Old.refl Old.trans (.step 0 (.step 1 (.step 2 (.step 3 (.step 4 (.step 5 (.step 6 (.step 7 (.step 8 (.step 9 (.step 10 .done))))))))))) krA krA cdA ?_
 repeat refine txA ?_
 refine am rfl rfl rfA (fun K R=> ?_);go_wp2_with fail;refine R _ _ ((VW _ _).alloc (VU _) _) ?_;clear R K r1 r2
 repeat refine txA ?_
 refine az rfl rfl rfA (fun K R=> ?_);go_wp2_with fail;refine aq ?_;go_upto_region 1 with fail;obtain ⟨Y,J⟩:=At w.heap.size;rw [<-J];refine ag (fun W=>(∃y:Int,Blk W Y #[.int .i64 y] 3)/\Below w.heap.size w W) ⟨⟨_,by rw [J];exact (Blk.new w _ _).drew⟩,cL⟩ ?_;rintro W1 ⟨⟨y0,X⟩,A⟩;have s:B<=Y:=oA;have A0:Y≠q.c:=oA;have A1:xb≠Y:=oA;have A2:=Vd b A.size;have A3:=O.old A b;have g:=De W1 B q Y 0 _ _ _ A3 A2 X rfl s A0;have A4:=hx.old A;have S:=Hd J;clear J;go_wp2_with fail;refine g.mono ?_;clear g;rintro e E ⟨T,U⟩;by_cases l:q.at_+8<=q.bs.length
 .obtain ⟨rfl,C⟩:=U l;clear T U;have L:bO q.bs q.at_= .ok (ii q.bs q.at_,q.at_+8):=(by unfold bO;rw [VV oA];rfl);have j:=C.blk.rule;obtain ⟨n,V⟩:=At (ii q.bs q.at_);have A7:E.cell? ⟨Y,0,none⟩=some (.int .i64 n):=(by rw [V];exact j 0);rw [<-V] at L;have M:gK w q E xb t:=mB.loc A C (VM S.out.symm) rfl H I;clear j V X;by_cases G:n< -128\/127<n
  .have D:=Hd (show ed q.bs q.at_= .error q.at_ by unfold ed;rw [L];dsimp only;rw [Vz G]);have Z:=Hd M;by_cases o1:n< -128
   .have d1:decide (n< -128)=true:=soA;clear G;go_wp2_with fail;refine ⟨rfl,?_⟩;rw [D.out];exact ⟨rfl,Z.out⟩
   .have d1:decide (n< -128)=false:=soA;have d2:decide (127<n)=true:=soA;clear G o1;go_wp2_with fail;refine ⟨rfl,?_⟩;rw [D.out];exact ⟨rfl,Z.out⟩
  .have D:=Hd (show ed q.bs q.at_= .ok (n,q.at_+8) by unfold ed;rw [L];dsimp only;rw [VV G]);have d1:decide (n< -128)=false:=soA;have d2:decide (127<n)=false:=soA;have e2:IntKind.i8.wrap n=n:=(by simp only [IntKind.wrap,IntKind.bits,IntKind.signed];simp;omega);have N:Blk E xb cs t:=(C.turn.block xb (VP I A.size) (by rintro (h|h);exact H h;exact A1 h)).trans A4;have cx:=N.rule i;rw [d] at cx;have fx:=N.free;have ht:aJ (fun x=>x=q.c\/x=xb) w E:=(aJ.of_below (F:=fun x=>x=q.c\/x=xb) A).trans C.turn fun x hx=>by
    rcases hx with rfl|rfl
    .exact .inl (.inl rfl)
    .exact .inr (by have:=S.out;omega)
   have A5:=C.at';clear C G L;go_wp2_with fail;refine WR (v:= .tuple #[]) (WZ rfl _ _ _) rfl ?_;rw [D.out];refine ⟨rfl,A5.keep (Vq _ _ _ _ (Vl H)) ((VW _ _).setCell m _),ht.setCell (.inl (.inr rfl)) _,?_⟩;exact N.set i (.int .i8 n)
 .obtain ⟨rfl,A6⟩:=T oA;have M:gK w q E xb t:=gK.loc A A6 (VM S.out.symm) rfl H I;have D:=Hd (show ed q.bs q.at_= .error q.bs.length by unfold ed bO;rw [Vz oA]);clear T U;go_wp2_with fail;refine ⟨rfl,?_⟩;rw [D.out];exact ⟨rfl,M⟩
section
variable {α:Type} {B:Nat} {w w':As} {q:RC} {r:Rd α} {f:α->AS} {xb:Nat} {t:TypeId} {e:Ending}
theorem Lf.err (h:Lf B w q r f xb t e w') {p:Nat} (A:r= .error p):e= .panicked (mH p)/\gK w q w' xb t:=by subst A;exact h
theorem Lf.ok (h:Lf B w q r f xb t e w') {v:α} {a:Nat} (A:r= .ok (v,a)):e= .returned (.tuple #[])/\mB B w q w' (q.to a) xb (f v) t:=by subst A;exact h
end
theorem mB.pre {B:Nat} {w0 w w':As} {q q':RC} {xb:Nat} {cs:AS} {t:TypeId} (h:mB B w q w' q' xb cs t) (A:Below w0.heap.size w0 w):mB B w0 q w' q' xb cs t:=
 ⟨h.at',(aJ.of_below (F:=fun x=>x=q.c\/x=xb) A).trans h.turn (fun _ C=> .inl C),h.blk⟩
theorem xH {α:Type} (bs:Le) (a:Nat) (K:Int->Int->Nat->Rd α) (h:bs.length<a+8*2):(thn (bO bs a) fun i a=>thn (bO bs a) fun c a=>K i c a)= .error bs.length:=by
 unfold bO;by_cases A:bs.length<a+8
 .rw [Vz A];rfl
 .rw [VV A];dsimp only [thn];rw [Vz oA]
theorem CR {α:Type} (bs:Le) (a:Nat) (K:Int->Int->Nat->Rd α) (h:a+8*2<=bs.length):(thn (bO bs a) fun i a=>thn (bO bs a) fun c a=>K i c a)=K (ii bs a) (ii bs (a+8)) (a+8*2):=by
 unfold bO;rw [VV oA];dsimp only [thn];rw [VV oA];rfl
theorem Jm {α:Type} (bs:Le) (a:Nat) (K:Int->Int->Int->Nat->Rd α) (h:bs.length<a+8*3):(thn (bO bs a) fun i a=>thn (bO bs a) fun c a=>thn (bO bs a) fun d a=>K i c d a)= .error bs.length:=by
 by_cases A:bs.length<a+8
 .unfold bO;rw [Vz A];rfl
 .have:bO bs a= .ok (ii bs a,a+8):=(by unfold bO;rw [VV A];rfl);rw [this];dsimp only [thn];exact xH bs (a+8) (fun c d a'=>K _ c d a') oA
theorem Mf {α:Type} (bs:Le) (a:Nat) (K:Int->Int->Int->Nat->Rd α) (h:a+8*3<=bs.length):(thn (bO bs a) fun i a=>thn (bO bs a) fun c a=>thn (bO bs a) fun d a=>K i c d a)=K (ii bs a) (ii bs (a+8)) (ii bs (a+16)) (a+8*3):=by
 have:bO bs a= .ok (ii bs a,a+8):=(by unfold bO;rw [VV oA];rfl);rw [this];dsimp only [thn];exact CR bs (a+8) (fun c d a'=>K _ c d a') oA
theorem rR (a:BitVec 64):ff a.toInt:=by
 have A:=Xv (x:=a);have C:=Xw (x:=a);simp only [ff,Lit.wf,IntKind.min,IntKind.max,IntKind.signed,IntKind.bits];simp at A C⊢;omega
theorem ib (bs:Le) (a:Nat):ff (ii bs a):=rR _
theorem CN {bs:Le} {a:Nat} {u:ci} {b:Nat} (h:fJ bs a= .ok (u,b)):u.wf:=by
 unfold fJ at h;by_cases A:a+8*2<=bs.length
 .rw [CR bs a (fun i c a=> .ok ((⟨i,c⟩:ci),a)) A] at h;cases h;exact ⟨ib _ _,ib _ _⟩
 .rw [xH bs a (fun i c a=> .ok ((⟨i,c⟩:ci),a)) oA] at h;cases h
theorem Mo (w:As) (B:Nat) (q:RC) (xb i:Nat) (cs:AS) (t:TypeId) (u0:ci) (G:RAt w B q) (J:B<=w.heap.size) (hx:Blk w xb cs t) (T:Aa cs i u0.cells) (M:B<=xb) (N:xb≠q.c):
  Calls prog 150 #[.pointer (some ⟨q.c,0,none⟩),.pointer (some ⟨xb,i,none⟩)] w (Lf B w q (fJ q.bs q.at_) (fun u=>eu cs i u.cells) xb t):=by
 have O:∀j,j<2->∃v,cs[i+j]? =some (.int .i64 v):=fun j W=>by
  have:=T j (by show j<2;omega);rcases (show j=0\/j=1 by omega) with rfl|rfl
  .exact ⟨_,this⟩
  .exact ⟨_,this⟩
 have U:=G.blk.lt;have V:=hx.lt;go_enter func150,ntmps150;go_wp2_with fail;refine ah false (au (fun _=>False)) (au.refl _) (fun _ _ _ D E=>au.trans D E) (.step 0 (.step 1 (.step 2 (.step 3 (.step 4 (.step 5 (.step 6 (.step 7 (.step 8 .done))))))))) krA krA cdA ?_
 repeat refine txA ?_
 refine am rfl rfl rfA (fun K A=> ?_);go_wp2_with fail;refine A _ _ ⟨skA,fun _ h=>h.elim⟩ ?_;clear A K
 repeat refine txA ?_
 refine am rfl rfl rfA (fun K A=> ?_);go_wp2_with fail;have C:Below w.heap.size w (w.alloc (.cells #[.pointer (some ⟨xb,i,none⟩),.pointer (some ⟨xb,i+1,none⟩)] 209)).drew:=cL;have L:=Hp _ B q w.heap.size 2 xb i cs _ (G.old C J) (Vd J C.size) (Blk.new w #[.pointer (some ⟨xb,i,none⟩),.pointer (some ⟨xb,i+1,none⟩)] 209).drew (Zf G.blk.lt) (Zf hx.lt) (hx.old C) O M N oA;refine L.mono ?_;clear L;rintro e X ⟨D,E⟩;by_cases I:q.at_+8*2<=q.bs.length
 .obtain ⟨rfl,F⟩:=E I;have P:=F.turn.size;replace F:=F.pre C;have H:=Hd (show fJ q.bs q.at_= .ok (⟨ii q.bs q.at_,ii q.bs (q.at_+8)⟩,q.at_+8*2) from CR q.bs q.at_ (fun i c a=> .ok ((⟨i,c⟩:ci),a)) I);clear D E;go_wp2_with fail;refine A _ _ ⟨by simpa using P,fun _ h=>h.elim⟩ ?_;clear A K;refine aq ?_;go_wp2_with fail;refine WR (v:= .tuple #[]) (WZ rfl _ _ _) rfl ?_;rw [H.out];exact ⟨rfl,F⟩
 .obtain ⟨rfl,R⟩:=D oA;have H:=Hd (show fJ q.bs q.at_= .error q.bs.length by unfold fJ;exact xH q.bs q.at_ _ oA);have S:=gK.pre C R;clear D E A;go_wp2_with fail;refine ⟨rfl,?_⟩;rw [H.out];exact ⟨rfl,S⟩
theorem aJ.of_ge {n:Nat} {a b:As} (h:Below n a b):aJ (fun x=>n<=x) a b:=⟨h.os,h.tape,h.output,h.size,fun k _ A=>h.block k oA⟩
theorem Own.head {w:As} {B:Nat} {e:TypeId} {size:Nat} {a:Lt} {n c:Nat} {vs:AT} (h:Own w B e size a n c vs) (A:0<n):∃g,a=some ⟨g,0,none⟩:=by
 obtain ⟨g,_,C,_⟩:=h.blk A;exact ⟨g,C⟩
theorem FE {bs:Le} {a:Nat} {n:Int} {b:Nat} (h:bO bs a= .ok (n,b)):ff n:=by
 unfold bO at h;split at h
 .cases h
 .cases h;exact rR _
theorem mS (l:List ci):(l.flatMap ci.cells).length=l.length*2:=by
 induction l with
 |nil=>rfl
 |cons x l ih=>rw [Vn,laA,ih,VC];show 2+_=_;omega
theorem Mw (w:As) (B:Nat) (q:RC) (xb i:Nat) (cs:AS) (t:TypeId) (v:Int) (D:RAt w B q) (E:B<=w.heap.size) (hx:Blk w xb cs t) (F:Aa cs i (bi v)) (A:B<=xb) (C:xb≠q.c):
  Calls prog 148 #[.pointer (some ⟨q.c,0,none⟩),.pointer (some ⟨xb,i,none⟩)] w (Lf B w q (bO q.bs q.at_) (fun n=>eu cs i (bi n)) xb t):=by
 refine (De w B q xb i cs t v D E hx (F 0 (by show 0<1;omega)) A C).mono ?_;rintro e w' ⟨G,H⟩;unfold bO;split
 .rename_i h;exact G h
 .rename_i h;exact H oA
theorem xM:bC prog 36 157 2 16:=bC.mk (z:= .agg #[.int .i64 0,.int .i64 0]) underlying36 krA rfl oA
theorem sC:bC prog 34 3 1 8:=bC.mk (z:= .int .i64 0) underlying34 krA rfl oA
theorem Own.last {w w':As} {B:Nat} {e:TypeId} {sz g n c:Nat} {A ys zs:AT} {D:AS} (h:Own w B e sz (some ⟨g,0,none⟩) n c (A++zs)) (N:Blk w g D e) (M:Blk w' g (eu D A.length ys) e) (O:ys.length=zs.length):Own w' B e sz (some ⟨g,0,none⟩) n c (A++ys):=by
 obtain ⟨F,E⟩:=h;refine ⟨by rw [laA,O,<-laA];exact F,?_⟩;rcases E with ⟨E,_⟩|⟨W,cap,C,G,P,R,H,S,I,T⟩
 .simp at E
 .simp only [Vi,Vu,Xy,ZA,ZP] at G;obtain ⟨rfl,rfl⟩:=G;have U:C=D:=by
   have J:w.heap[g]? =_:=N;rw [R] at J;simpa using J
  subst U;refine .inr ⟨g,c,eu C A.length ys,rfl,P,M,H,S,by rw [fk];exact I,?_⟩;have V:n*sz<=C.size:=by
   rw [I];exact Ws _ H
  rw [laA] at F;apply Yi;intro j;by_cases L:j<n*sz
  .rw [WF L,WJ];by_cases hx:j<A.length
   .rw [iv _ _ _ _ (.inl hx),Vo hx];have:=WS (fun l:AT=>l[j]?) T;simp only [WF L,WJ,Vo hx] at this;exact this
   .have:=nK ys C A.length (j-A.length) oA oA;rw [show A.length+(j-A.length)=j by omega] at this;rw [this,Vw oA,VJ oA]
  .rw [WK (by rw [ltA];omega),WK (by rw [laA];omega)]
def Lu {α:Type} (B:Nat) (w:As) (q:RC) (r:Rd α) (Ow:World->Sl->α->Prop) (f:Sl->AS) (xb:Nat) (t:TypeId) (e:Ending) (w':As):Prop:=match r with
 | .error p=>e= .panicked (mH p)/\gK w q w' xb t
 | .ok (l,a)=>e= .returned (.tuple #[])/\∃s,Ow w' s l/\mB B w q w' (q.to a) xb (f s) t
section
variable {α:Type} {B:Nat} {w w':As} {q:RC} {r:Rd α} {Ow:World->Sl->α->Prop} {f:Sl->AS} {xb:Nat} {t:TypeId} {e:Ending}
theorem Lu.err (h:Lu B w q r Ow f xb t e w') {p:Nat} (A:r= .error p):e= .panicked (mH p)/\gK w q w' xb t:=by subst A;exact h
theorem Lu.ok (h:Lu B w q r Ow f xb t e w') {v:α} {a:Nat} (A:r= .ok (v,a)):e= .returned (.tuple #[])/\∃s,Ow w' s v/\mB B w q w' (q.to a) xb (f s) t:=by subst A;exact h
end
def zZ (w:As) (B:Nat) (q:RC) (xb i:Nat) (cs:AS) (t:TypeId) (N:Nat) (R0:Rd (List Int)) (f:Nat) (v50:Value) (wr:As):Prop:=
 ∃(k:Nat) (s:Sl) (l:List Int) (a:Nat),k+f=N/\v50= .int .i64 (k:Int)/\Own wr w.heap.size 3 1 s.a k s.c (l.map (Value.int .i64))/\s.n=k/\l.length=k/\(∀x∈l,ff x)/\RAt wr B (q.to a)/\Blk wr xb (cs.setIfInBounds i (.slice s.a k s.c)) t/\
  aJ (fun x=>x=q.c\/x=xb) w wr/\R0=(match bQ (bO q.bs) (N-k) a with
   | .error p=> .error p
   | .ok (m,b)=> .ok (l++m,b))
theorem AR (w:As) (B:Nat) (q:RC) (xb i:Nat) (cs:AS) (t:TypeId) (s0:Sl) (hq:RAt w B q) (hB:B<=w.heap.size) (hx:Blk w xb cs t) (S:cs[i]? =some (.slice s0.a s0.n s0.c)) (B7:B<=xb) (D:xb≠q.c):
  Calls prog 147 #[.pointer (some ⟨q.c,0,none⟩),.pointer (some ⟨xb,i,none⟩),.int .i64 8,.func (.func 148) #[.pointer (some ⟨q.c,0,none⟩)] #[]] w (Lu B w q (gS q.bs q.at_) (fun W=>ax W w.heap.size) (fun s=>cs.setIfInBounds i (.slice s.a s.n s.c)) xb t):=by
 have O:=hx.lt;have B9:=hq.blk.lt;have G3:=hq.max;obtain ⟨sa,sn,sc⟩:=s0;dsimp only at S;go_enter func147,ntmps147;go_wp2_with fail;have r1:∀W,Old w.drew W->W.cell? ⟨q.c,1,none⟩=some (.int .i64 (q.at_:Int)):=fun W hW=>(by rw [hW.cell (p:=⟨q.c,1,none⟩) B9];exact hq.blk.rule 1);have r2:∀W,Old w.drew W->W.cell? ⟨xb,i,none⟩=some (.slice sa sn sc):=fun W hW=>(by rw [hW.cell (p:=⟨xb,i,none⟩) O];exact (hx.rule i).trans S);refine ah true Old Old.refl Old.trans (.step 0 (.step 1 (.step 2 (.step 3 (.step 4 (.step 5 (.step 6 (.step 7 (.step 8 (.step 9 (.step 10 .done))))))))))) krA krA cdA ?_
 repeat refine txA ?_
 refine am rfl rfl rfA (fun K hK=> ?_);go_wp2_with fail;refine hK _ _ ((VW _ _).alloc (VU _) _) ?_;clear hK K r1 r2
 repeat refine txA ?_
 refine az rfl rfl rfA (fun K hK=> ?_);go_wp2_with fail;refine aq ?_;go_upto_region 1 with fail;obtain ⟨Y,hY⟩:=At w.heap.size;rw [<-hY];refine ag (fun W=>(∃y:Int,Blk W Y #[.int .i64 y] 3)/\Below w.heap.size w W) ⟨⟨_,by rw [hY];exact (Blk.new w _ _).drew⟩,cL⟩ ?_;rintro W1 ⟨⟨y0,CK⟩,E⟩;have D7:B<=Y:=oA;have D8:Y≠q.c:=oA;have D9:xb≠Y:=oA;have EE:=Vd hB E.size;have EQ:=hq.old E hB;have G:=De W1 B q Y 0 _ _ _ EQ EE CK rfl D7 D8;have E0:=hx.old E;have HY:=Hd hY;clear hY;go_wp2_with fail;refine G.mono ?_;clear G;rintro e H ⟨h1,h2⟩;by_cases D5:q.at_+8<=q.bs.length
 .obtain ⟨rfl,I⟩:=h2 D5;clear h1 h2;have o:bO q.bs q.at_= .ok (ii q.bs q.at_,q.at_+8):=(by unfold bO;rw [VV oA];rfl);have cn:=I.blk.rule;have E1:=ib q.bs q.at_;obtain ⟨n,hn⟩:=At (ii q.bs q.at_);have E2:H.cell? ⟨Y,0,none⟩=some (.int .i64 n):=(by rw [hn];exact cn 0);have CW:Blk H Y #[.int .i64 n] 3:=(by rw [hn];exact I.blk);rw [<-hn] at o E1;have T:gK w q H xb t:=mB.loc E I (VM HY.out.symm) rfl D O;have A8:RAt H B (q.to (q.at_+8)):=I.at';have C0:Blk H xb cs t:=(I.turn.block xb (VP O E.size) (by rintro (h|h);exact D h;exact D9 h)).trans E0;have C1:aJ (fun x=>x=q.c\/x=xb) w H:=(aJ.of_below (F:=fun x=>x=q.c\/x=xb) E).trans I.turn fun x hx=>by
   rcases hx with rfl|rfl
   .exact .inl (.inl rfl)
   .exact .inr (by have:=HY.out;omega)
  have J:=A8.blk.rule;unfold iu at J;have U:(q.to (q.at_+8)).c=q.c:=rfl;have E3:(q.to (q.at_+8)).at_=q.at_+8:=rfl;have E4:(q.to (q.at_+8)).bs=q.bs:=rfl;have E5:(q.to (q.at_+8)).a=q.a:=rfl;have E6:(q.to (q.at_+8)).cap=q.cap:=rfl;rw [U,E3,E4,E5,E6] at J;have G2:IntKind.i64.wrap ((q.bs.length:Int)-((q.at_+8:Nat):Int))=(q.bs.length:Int)-((q.at_+8:Nat):Int):=(by rw [VR];omega);clear cn hn CK I;have C2:=Hd C0;have C3:=Hd C1;go_upto_region 3 with fail;by_cases o1:n<0
  .have d1:decide (n<0)=true:=soA;have A:=Hd (show gS q.bs q.at_= .error q.at_ by unfold gS iM;rw [o];dsimp only;rw [Vz (.inl o1)]);have A9:=Hd T;go_quiet (fail);go_wp2_with fail;refine ⟨rfl,?_⟩;rw [A.out];exact ⟨rfl,A9.out.drewN _⟩
  .have d1:decide (n<0)=false:=soA;have A2:((q.bs.length:Int)-((q.at_+8:Nat):Int)).tdiv 8=((q.bs.length:Int)-((q.at_:Int)+8))/8:=by
    rw [WT oA];rfl
   by_cases o2:((q.bs.length:Int)-((q.at_:Int)+8))/8<n
   .have d2:decide (((q.bs.length:Int)-((q.at_:Int)+8))/8<n)=true:=(by simpa using o2);have A:=Hd (show gS q.bs q.at_= .error q.at_ by unfold gS iM;rw [o];dsimp only;rw [Vz (.inr (by rw [show ((((8:Nat):Int)))=(8:Int) from rfl,A2];exact o2))]);have A9:=Hd T;clear o2 A2;go_quiet (fail);go_wp2_with fail;refine ⟨rfl,?_⟩;rw [A.out];exact ⟨rfl,A9.out.drewN _⟩
   .have d2:decide (((q.bs.length:Int)-((q.at_:Int)+8))/8<n)=false:=(by simpa using o2);obtain ⟨N,hN⟩:∃N:Nat,n=(N:Int):=⟨n.toNat,oA⟩;have G4:N<=200000:=oA;have A:=Hd (show gS q.bs q.at_=bQ (bO q.bs) N (q.at_+8) by
     unfold gS iM;rw [o];dsimp only;rw [VV (by rw [show ((((8:Nat):Int)))=(8:Int) from rfl,A2];omega),hN];rfl)
    subst hN;clear o2 A2 o;go_quiet (fail);go_upto_region 5 with fail;refine ag (fun W=>Blk W xb cs t/\RAt W B (q.to (q.at_+8))/\aJ (fun x=>x=q.c\/x=xb) w W/\Blk W Y #[.int .i64 (N:Int)] 3) ⟨C2.out,A8.keep rfl (bS (VW _ _) _),C3.out.drewN _,CW⟩ ?_;clear C0 C1 A8 CW E2 T J C2 C3;rintro w3 ⟨A3,C4,C5,C6⟩;have C7:=A3.rule i;rw [S] at C7;have E7:=A3.free;have E8:=C6.rule;have C8:zZ w B q xb i cs t N (bQ (bO q.bs) N (q.at_+8)) N (.int .i64 0) (w3.setCell ⟨xb,i,none⟩ (.slice none 0 0)):=by
     refine ⟨0,⟨none,0,0⟩,[],q.at_+8,oA,rfl,Own.nil _ _ _ _,rfl,rfl,skA,C4.keep (Vq _ _ _ _ (Vl D)) ((VW _ _).setCell B7 _),A3.set i _,C5.setCell (.inl (.inr rfl)) _,?_⟩;rw [ZD];cases bQ (bO q.bs) N (q.at_+8) with
     |error p=>rfl
     |ok v=>rfl
    go_wp2_with fail;go_loopg [50] N (zZ w B q xb i cs t N (bQ (bO q.bs) N (q.at_+8)))
    case atStart=>exact C8
    case round=>
     clear C8 C7 E7 E8 A3 C4 C5 C6;obtain ⟨k,s,l,a,hk,rfl,L,V,BY,C9,A4,X,A5,hR⟩:=hrel;have DO:=Hd hR;clear hR;by_cases G5:k<N
     .have t0:decide ((k:Int)<(N:Int))=true:=soA;have cx:=X.rule i;rw [Vs,Vz rfl,Vz (by have:=VT.1 S;exact this.1)] at cx;have fx:=X.free;have J:=A4.blk.rule;unfold iu at J;have U:(q.to a).c=q.c:=rfl;rw [U] at J;have E9:=A5.size;have hA:=L.alloc (.cells #[.int .i64 0] 3);go_wp2_with (at_builtin;refine al rfl _ _ 34 rfl sC rfl hA rfl (av.new' _ _ _ _ rfl) rfA (by exact de _ rfl) mxA oA soA ?_);intro a2 c2 w4 B5 D0;have Z:Below w.heap.size wr w4:=hA.grown ((VW _ _).alloc E9 _) (VU _) D0 soA;have P:=(Z.block xb O).trans X;replace P:Blk w4 xb _ t:=P;have D1:=P.rule i;rw [Vs,Vz rfl,Vz (by have:=VT.1 S;exact this.1)] at D1;have F0:=P.free;go_upto_region 12 with fail;refine ag (fun W=>Blk W xb (cs.setIfInBounds i (.slice a2 (k+1) c2)) t/\RAt W B (q.to a)/\Own W w.heap.size 3 1 a2 (k+1) c2 (l.map (Value.int .i64)++bi 0)/\aJ (fun x=>x=q.c\/x=xb) w W) ⟨?_,?_,?_,?_⟩ ?_
      .have:=P.set i (.slice a2 (k+1) c2);rw [YC] at this;exact this
      .exact A4.keep ((Vq _ _ _ _ (Vl D)).trans (Z.block q.c B9)) ((Z.mono hB).trans ((VW _ _).setCell B7 _))
      .exact B5.setCell_lt _ _ O
      .exact (A5.trans (aJ.of_ge Z) fun x hx=> .inr hx).setCell (.inl (.inr rfl)) _
      clear cx fx J D1 F0 P B5 D0 Z hA L X A4 A5;rintro w5 ⟨B0,F1,A0,B1⟩;have F2:=B1.size;have F3:=Vd hB F2;obtain ⟨g,F4⟩:=A0.head oA;subst F4;obtain ⟨A6,_,B2,M⟩:=A0.block_lt rfl;replace M:Blk w5 g B2 3:=M;replace A6:w.heap.size<=g:=A6;have B3:(l.map (Value.int .i64)).length=k*1:=(by rw [lmA,BY,Vr]);have B6:Aa B2 (k*1) (bi 0):=fun j hj=>by
       obtain ⟨b',o',e1,e2⟩:=A0.row (k*1+j) (by rw [laA,B3];omega);cases e1;rw [VN] at e2;have e3:=M.rule (k*1+j);rw [e2,YK oA] at e3;rw [<-e3];simp [B3]
      have D2:=B0.rule i;rw [Vs,Vz rfl,Vz (by have:=VT.1 S;exact this.1)] at D2;have F5:g≠q.c:=oA;have D3:xb≠g:=oA;have G:=Mw w5 B (q.to a) g (k*1) B2 3 0 F1 F3 M B6 (by show B<=g;omega) F5;have U:(q.to a).c=q.c:=rfl;rw [U] at G;rw [Vr] at G;go_wp2_with fail;refine G.mono ?_;clear G;rintro e w6 A1;obtain ⟨m,hm⟩:∃m,N-k=m+1:=⟨N-k-1,oA⟩;have d:=DO.out;rw [hm] at d;cases C:bO q.bs a with
      |error p=>
       obtain ⟨rfl,D4⟩:=A1.err C;have B4:=Hd (show bQ (bO q.bs) N (q.at_+8)= .error p by
        rw [d];simp only [bQ,C])
       have A7:Blk w6 xb _ t:=(D4.turn.block xb oA (by rintro (h|h);exact D h;exact D3 h)).trans B0;have F6:gK w q w6 xb t:=gK.of hx (B1.trans D4.turn fun x hx=>by
        rcases hx with rfl|rfl
        .exact .inl (.inl rfl)
        .exact .inr A6) A7 skA
       clear A1 d C A7;go_wp2_with fail;refine ⟨rfl,?_⟩;rw [A.out,B4.out];exact ⟨rfl,F6⟩
      |ok va=>
       obtain ⟨v,a'⟩:=va;obtain ⟨rfl,R⟩:=A1.ok C;have F7:ff v:=FE C;have D6:=A0.last (ys:=bi v) M (by rw [B3];first|exact R.blk|(rw [Vr];exact R.blk)) rfl;have A7:Blk w6 xb _ t:=(R.turn.block xb oA (by rintro (h|h);exact D h;exact D3 h)).trans B0;have F8:aJ (fun x=>x=q.c\/x=xb) w w6:=B1.trans R.turn fun x hx=>by
        rcases hx with rfl|rfl
        .exact .inl (.inl rfl)
        .exact .inr A6
       have F9:RAt w6 B (q.to a'):=R.at';have B4:=Hd (show bQ (bO q.bs) N (q.at_+8)=(match bQ (bO q.bs) (N-(k+1)) a' with
        | .error p=> .error p
        | .ok (m,b)=> .ok ((l++ [v])++m,b)) by
        rw [d,show N-(k+1)=m by omega];simp only [bQ,C];cases bQ (bO q.bs) m a' with
        |error p=>rfl
        |ok y=>simp)
       clear A1 d C R B6 M D2;go_wp2_with fail;go_roundg (gk-1)
       case measure=>omega
       case rel=>
        refine ⟨k+1,⟨some ⟨g,0,none⟩,k+1,c2⟩,l++ [v],a',oA,gnA,by simpa [bi] using D6,rfl,by simp [BY],?_,F9,A7,F8,B4.out⟩;intro x hx;rcases Ve.1 hx with hx|hx
        .exact C9 x hx
        .rw [VS.1 hx];exact F7
     .have hkN:k=N:=oA;have G0:=Hd (show bQ (bO q.bs) N (q.at_+8)= .ok (l,a) by
       rw [DO.out,hkN,Ye];simp [bQ])
      have t0:decide ((k:Int)<(N:Int))=false:=soA;go_wp2_with fail;refine WR (v:= .tuple #[]) (WZ rfl _ _ _) rfl ?_;rw [A.out,G0.out];refine ⟨rfl,s,⟨by rw [V];exact L,L.row,by rw [V];exact BY,by rw [V];exact L.le,L.cap_le,by rw [V];omega,C9⟩,A4,A5,by show Blk wr xb (cs.setIfInBounds i (.slice s.a s.n s.c)) t;rw [V];exact X⟩
 .obtain ⟨rfl,G1⟩:=h1 oA;have T:gK w q H xb t:=gK.loc E G1 (VM HY.out.symm) rfl D O;have A:=Hd (show gS q.bs q.at_= .error q.bs.length by unfold gS iM bO;rw [Vz oA]);clear h1 h2;go_wp2_with fail;refine ⟨rfl,?_⟩;rw [A.out];exact ⟨rfl,T⟩
def wS (w:As) (B:Nat) (q:RC) (xb i:Nat) (cs:AS) (t:TypeId) (N:Nat) (R0:Rd (List ci)) (f:Nat) (v50:Value) (wr:As):Prop:=
 ∃(k:Nat) (s:Sl) (l:List ci) (a:Nat),k+f=N/\v50= .int .i64 (k:Int)/\Own wr w.heap.size 157 2 s.a k s.c (l.flatMap ci.cells)/\s.n=k/\l.length=k/\(∀x∈l,x.wf)/\RAt wr B (q.to a)/\Blk wr xb (cs.setIfInBounds i (.slice s.a k s.c)) t/\
  aJ (fun x=>x=q.c\/x=xb) w wr/\R0=(match bQ (fJ q.bs) (N-k) a with
   | .error p=> .error p
   | .ok (m,b)=> .ok (l++m,b))
theorem xT (w:As) (B:Nat) (q:RC) (xb i:Nat) (cs:AS) (t:TypeId) (s0:Sl) (hq:RAt w B q) (hB:B<=w.heap.size) (hx:Blk w xb cs t) (J:cs[i]? =some (.slice s0.a s0.n s0.c)) (C3:B<=xb) (H:xb≠q.c):
  Calls prog 149 #[.pointer (some ⟨q.c,0,none⟩),.pointer (some ⟨xb,i,none⟩),.int .i64 16,.func (.func 150) #[.pointer (some ⟨q.c,0,none⟩)] #[]] w (Lu B w q (fj q.bs q.at_) (fun W=>aQ W w.heap.size) (fun s=>cs.setIfInBounds i (.slice s.a s.n s.c)) xb t):=by
 have R:=hx.lt;have C4:=hq.blk.lt;have HE:=hq.max;obtain ⟨sa,sn,sc⟩:=s0;dsimp only at J;go_enter func149,ntmps149;go_wp2_with fail;have r1:∀W,Old w.drew W->W.cell? ⟨q.c,1,none⟩=some (.int .i64 (q.at_:Int)):=fun W L=>(by rw [L.cell (p:=⟨q.c,1,none⟩) C4];exact hq.blk.rule 1);have r2:∀W,Old w.drew W->W.cell? ⟨xb,i,none⟩=some (.slice sa sn sc):=fun W L=>(by rw [L.cell (p:=⟨xb,i,none⟩) R];exact (hx.rule i).trans J);refine ah true Old Old.refl Old.trans (.step 0 (.step 1 (.step 2 (.step 3 (.step 4 (.step 5 (.step 6 (.step 7 (.step 8 (.step 9 (.step 10 .done))))))))))) krA krA cdA ?_
 repeat refine txA ?_
 refine am rfl rfl rfA (fun K A=> ?_);go_wp2_with fail;refine A _ _ ((VW _ _).alloc (VU _) _) ?_;clear A K r1 r2
 repeat refine txA ?_
 refine az rfl rfl rfA (fun K A=> ?_);go_wp2_with fail;refine aq ?_;go_upto_region 1 with fail;obtain ⟨Y,hY⟩:=At w.heap.size;rw [<-hY];refine ag (fun W=>(∃y:Int,Blk W Y #[.int .i64 y] 3)/\Below w.heap.size w W) ⟨⟨_,by rw [hY];exact (Blk.new w _ _).drew⟩,cL⟩ ?_;rintro W1 ⟨⟨y0,C5⟩,I⟩;have E4:B<=Y:=oA;have E5:Y≠q.c:=oA;have E6:xb≠Y:=oA;have E7:=Vd hB I.size;have E8:=hq.old I hB;have V:=De W1 B q Y 0 _ _ _ E8 E7 C5 rfl E4 E5;have E9:=hx.old I;have HY:=Hd hY;clear hY;go_wp2_with fail;refine V.mono ?_;clear V;rintro e M ⟨h1,h2⟩;by_cases E0:q.at_+8<=q.bs.length
 .obtain ⟨rfl,O⟩:=h2 E0;clear h1 h2;have e0:bO q.bs q.at_= .ok (ii q.bs q.at_,q.at_+8):=(by unfold bO;rw [VV oA];rfl);have cn:=O.blk.rule;have F0:=ib q.bs q.at_;obtain ⟨n,hn⟩:=At (ii q.bs q.at_);have F1:M.cell? ⟨Y,0,none⟩=some (.int .i64 n):=(by rw [hn];exact cn 0);have C6:Blk M Y #[.int .i64 n] 3:=(by rw [hn];exact O.blk);rw [<-hn] at e0 F0;have d:gK w q M xb t:=mB.loc I O (VM HY.out.symm) rfl H R;have B3:RAt M B (q.to (q.at_+8)):=O.at';have C7:Blk M xb cs t:=(O.turn.block xb (VP R I.size) (by rintro (h|h);exact H h;exact E6 h)).trans E9;have C8:aJ (fun x=>x=q.c\/x=xb) w M:=(aJ.of_below (F:=fun x=>x=q.c\/x=xb) I).trans O.turn fun x hx=>by
   rcases hx with rfl|rfl
   .exact .inl (.inl rfl)
   .exact .inr (by have:=HY.out;omega)
  have C:=B3.blk.rule;unfold iu at C;have o:(q.to (q.at_+8)).c=q.c:=rfl;have F2:(q.to (q.at_+8)).at_=q.at_+8:=rfl;have F3:(q.to (q.at_+8)).bs=q.bs:=rfl;have F4:(q.to (q.at_+8)).a=q.a:=rfl;have F5:(q.to (q.at_+8)).cap=q.cap:=rfl;rw [o,F2,F3,F4,F5] at C;have HD:IntKind.i64.wrap ((q.bs.length:Int)-((q.at_+8:Nat):Int))=(q.bs.length:Int)-((q.at_+8:Nat):Int):=(by rw [VR];omega);clear cn hn C5 O;have C9:=Hd C7;have DO:=Hd C8;go_upto_region 3 with fail;by_cases o1:n<0
  .have d1:decide (n<0)=true:=soA;have E:=Hd (show fj q.bs q.at_= .error q.at_ by unfold fj iM;rw [e0];dsimp only;rw [Vz (.inl o1)]);have B4:=Hd d;go_quiet (fail);go_wp2_with fail;refine ⟨rfl,?_⟩;rw [E.out];exact ⟨rfl,B4.out.drewN _⟩
  .have d1:decide (n<0)=false:=soA;have A6:((q.bs.length:Int)-((q.at_+8:Nat):Int)).tdiv 16=((q.bs.length:Int)-((q.at_:Int)+8))/16:=by
    rw [WT oA];rfl
   by_cases o2:((q.bs.length:Int)-((q.at_:Int)+8))/16<n
   .have d2:decide (((q.bs.length:Int)-((q.at_:Int)+8))/16<n)=true:=(by simpa using o2);have E:=Hd (show fj q.bs q.at_= .error q.at_ by unfold fj iM;rw [e0];dsimp only;rw [Vz (.inr (by rw [show ((((16:Nat):Int)))=(16:Int) from rfl,A6];exact o2))]);have B4:=Hd d;clear o2 A6;go_quiet (fail);go_wp2_with fail;refine ⟨rfl,?_⟩;rw [E.out];exact ⟨rfl,B4.out.drewN _⟩
   .have d2:decide (((q.bs.length:Int)-((q.at_:Int)+8))/16<n)=false:=(by simpa using o2);obtain ⟨N,hN⟩:∃N:Nat,n=(N:Int):=⟨n.toNat,oA⟩;have HF:N<=200000:=oA;have E:=Hd (show fj q.bs q.at_=bQ (fJ q.bs) N (q.at_+8) by
     unfold fj iM;rw [e0];dsimp only;rw [VV (by rw [show ((((16:Nat):Int)))=(16:Int) from rfl,A6];omega),hN];rfl)
    subst hN;clear o2 A6 e0;go_quiet (fail);go_upto_region 5 with fail;refine ag (fun W=>Blk W xb cs t/\RAt W B (q.to (q.at_+8))/\aJ (fun x=>x=q.c\/x=xb) w W/\Blk W Y #[.int .i64 (N:Int)] 3) ⟨C9.out,B3.keep rfl (bS (VW _ _) _),DO.out.drewN _,C6⟩ ?_;clear C7 C8 B3 C6 F1 d C C9 DO;rintro w3 ⟨A7,D0,D1,D2⟩;have D3:=A7.rule i;rw [J] at D3;have F6:=A7.free;have F7:=D2.rule;have D4:wS w B q xb i cs t N (bQ (fJ q.bs) N (q.at_+8)) N (.int .i64 0) (w3.setCell ⟨xb,i,none⟩ (.slice none 0 0)):=by
     refine ⟨0,⟨none,0,0⟩,[],q.at_+8,oA,rfl,Own.nil _ _ _ _,rfl,rfl,skA,D0.keep (Vq _ _ _ _ (Vl H)) ((VW _ _).setCell C3 _),A7.set i _,D1.setCell (.inl (.inr rfl)) _,?_⟩;rw [ZD];cases bQ (fJ q.bs) N (q.at_+8) with
     |error p=>rfl
     |ok v=>rfl
    go_wp2_with fail;go_loopg [50] N (wS w B q xb i cs t N (bQ (fJ q.bs) N (q.at_+8)))
    case atStart=>exact D4
    case round=>
     clear D4 D3 F6 F7 A7 D0 D1 D2;obtain ⟨k,s,l,a,hk,rfl,D,A0,B5,D5,A8,S,A9,hR⟩:=hrel;have D6:=Hd hR;clear hR;by_cases HG:k<N
     .have t0:decide ((k:Int)<(N:Int))=true:=soA;have X:=S.rule i;rw [Vs,Vz rfl,Vz (by have:=VT.1 J;exact this.1)] at X;have fx:=S.free;have C:=A8.blk.rule;unfold iu at C;have o:(q.to a).c=q.c:=rfl;rw [o] at C;have F8:=A9.size;go_upto_region 11 with fail;obtain ⟨Z,hZ⟩:=At wr.heap.size;rw [<-hZ];refine ag (fun W=>Blk W Z (ci.cells ⟨0,0⟩).toArray 157/\Below wr.heap.size wr W) ⟨by rw [hZ];exact Blk.new wr _ _,cL⟩ ?_;rintro W0 ⟨D7,A1⟩;have F9:=D7.lt;have HH:wr.heap.size<=Z:=oA;have G0:∀x,(Value.slice s.a k s.c).ownBlock=some x->w.heap.size<=x/\x<wr.heap.size:=fun x hx=>by
       cases BY:s.a with
       |none=>rw [BY] at hx;cases hx
       |some ad=>
        rw [BY] at hx;cases hx;exact ⟨(D.block_lt BY).1,(D.block_lt BY).2.1⟩
      have HI:xb<Z:=oA;have B6:=S.old A1;have E2:=B6.lt;have E3:Below w.heap.size wr W0:=A1.mono F8;clear hZ X fx C;have X:=B6.rule i;rw [Vs,Vz rfl,Vz (by have:=VT.1 J;exact this.1)] at X;have r1:∀W,au (fun x=>x=xb\/x=Z) W0.drew W->W.cell? ⟨xb,i,none⟩=some (.slice s.a k s.c):=fun W L=>(VE (a:=⟨xb,i,none⟩) (L.2 _ (.inl rfl))).trans X;have r2:∀W,au (fun x=>x=xb\/x=Z) W0.drew W->∀j,W.cell? ⟨Z,j,none⟩=(ci.cells ⟨0,0⟩).toArray[j]? :=fun W L j=>(show Blk W Z _ _ from (L.2 _ (.inr rfl)).trans D7).rule j;unfold ci.cells at r2;have hA:=((D.old A1).drew).alloc (.cells #[.int .i64 0,.int .i64 0] 157);have fx:∀j,W0.frozen? ⟨xb,j,none⟩=false:=B6.free;refine ah true (au (fun x=>x=xb\/x=Z)) (au.refl _) (fun _ _ _ h1 h2=>au.trans h1 h2) (.step 0 (.step 1 (.step 2 (.step 3 (.step 4 (.step 5 (.step 6 (.step 7 (.step 8 .done))))))))) krA krA cdA ?_
      repeat refine txA ?_
      refine am rfl rfl rfA (fun K A=> ?_);go_wp2_with fail;refine A _ _ (au.below ((VW _ _).alloc (VU _) _) (fun x hx=>by rcases hx with rfl|rfl;exact E2;exact F9)) ?_;clear A K;refine am rfl rfl rfA (fun K A=> ?_);refine eF (.tmp 60) (.tmp 62) 36 rfl xM rfl hA rfl (av.new' _ _ _ _ rfA) rfA (by intro u hu;simp at hu;rcases hu with rfl|rfl<;>rfl) mxA oA (by have:=A1.size;simp;omega) ?_
      intro a2 c2 w4 C1 B0;have A2:Below w.heap.size wr w4:=hA.grown ((E3.drew).alloc (show w.heap.size<=W0.heap.size from by have:=A1.size;omega) _) (VU _) B0 soA;refine A _ _ ⟨B0.size,fun x hx=> ?_⟩ ?_
      .refine B0.block x (by rcases hx with rfl|rfl<;>simp<;>omega) fun e=> ?_
       have:=G0 x e.symm;rcases hx with rfl|rfl<;>omega
      clear A K r1 r2;have T:=(A2.block xb R).trans S;replace T:Blk w4 xb _ t:=T;have D8:=T.rule i;rw [Vs,Vz rfl,Vz (by have:=VT.1 J;exact this.1)] at D8;have G1:=T.free
      repeat refine txA ?_
      refine az rfl rfl rfA (fun K A=> ?_);go_wp2_with fail;refine aq ?_;have C:=0;go_upto_region 12 with fail;refine ag (fun W=>Blk W xb (cs.setIfInBounds i (.slice a2 (k+1) c2)) t/\RAt W B (q.to a)/\Own W w.heap.size 157 2 a2 (k+1) c2 (l.flatMap ci.cells++ci.cells ⟨0,0⟩)/\aJ (fun x=>x=q.c\/x=xb) w W) ⟨?_,?_,?_,?_⟩ ?_
      .have:=T.set i (.slice a2 (k+1) c2);rw [YC] at this;exact this
      .exact A8.keep ((Vq _ _ _ _ (Vl H)).trans (A2.block q.c C4)) ((A2.mono hB).trans ((VW _ _).setCell C3 _))
      .exact C1.setCell_lt _ _ R
      .exact (A9.trans (aJ.of_ge A2) fun x hx=> .inr hx).setCell (.inl (.inr rfl)) _
      clear X fx C D8 G1 T C1 B0 A2 hA D S A8 A9;rintro w5 ⟨B7,G2,A4,B9⟩;have G3:=B9.size;have G4:=Vd hB G3;obtain ⟨g,G5⟩:=A4.head oA;subst G5;obtain ⟨B1,_,CK,P⟩:=A4.block_lt rfl;replace P:Blk w5 g CK 157:=P;replace B1:w.heap.size<=g:=B1;have CW:(l.flatMap ci.cells).length=k*2:=(by rw [mS,B5]);have C2:Aa CK (k*2) (ci.cells ⟨0,0⟩):=fun j hj=>by
       obtain ⟨b',o',e1,e2⟩:=A4.row (k*2+j) (by rw [laA,CW];omega);cases e1;rw [VN] at e2;have e3:=P.rule (k*2+j);rw [e2,YK oA] at e3;rw [<-e3];simp [CW]
      have D9:=B7.rule i;rw [Vs,Vz rfl,Vz (by have:=VT.1 J;exact this.1)] at D9;have G6:g≠q.c:=oA;have EE:xb≠g:=oA;have V:=Mo w5 B (q.to a) g (k*2) CK 157 ⟨0,0⟩ G2 G4 P C2 (by show B<=g;omega) G6;have o:(q.to a).c=q.c:=rfl;rw [o] at V;skip;go_wp2_with fail;refine V.mono ?_;clear V;rintro e w6 A5;obtain ⟨m,hm⟩:∃m,N-k=m+1:=⟨N-k-1,oA⟩;have A3:=D6.out;rw [hm] at A3;cases G:fJ q.bs a with
      |error p=>
       obtain ⟨rfl,EQ⟩:=A5.err G;have C0:=Hd (show bQ (fJ q.bs) N (q.at_+8)= .error p by
        rw [A3];simp only [bQ,G])
       have B2:Blk w6 xb _ t:=(EQ.turn.block xb oA (by rintro (h|h);exact H h;exact EE h)).trans B7;have G7:gK w q w6 xb t:=gK.of hx (B9.trans EQ.turn fun x hx=>by
        rcases hx with rfl|rfl
        .exact .inl (.inl rfl)
        .exact .inr B1) B2 skA
       clear A5 A3 G B2;go_wp2_with fail;refine ⟨rfl,?_⟩;rw [E.out,C0.out];exact ⟨rfl,G7⟩
      |ok va=>
       obtain ⟨v,a'⟩:=va;obtain ⟨rfl,U⟩:=A5.ok G;have G8:v.wf:=CN G;have E1:=A4.last (ys:=v.cells) P (by rw [CW];first|exact U.blk|(rw [Vr];exact U.blk)) rfl;have B2:Blk w6 xb _ t:=(U.turn.block xb oA (by rintro (h|h);exact H h;exact EE h)).trans B7;have G9:aJ (fun x=>x=q.c\/x=xb) w w6:=B9.trans U.turn fun x hx=>by
        rcases hx with rfl|rfl
        .exact .inl (.inl rfl)
        .exact .inr B1
       have HA:RAt w6 B (q.to a'):=U.at';have C0:=Hd (show bQ (fJ q.bs) N (q.at_+8)=(match bQ (fJ q.bs) (N-(k+1)) a' with
        | .error p=> .error p
        | .ok (m,b)=> .ok ((l++ [v])++m,b)) by
        rw [A3,show N-(k+1)=m by omega];simp only [bQ,G];cases bQ (fJ q.bs) m a' with
        |error p=>rfl
        |ok y=>simp)
       clear A5 A3 G U C2 P D9;go_wp2_with fail;go_roundg (gk-1)
       case measure=>omega
       case rel=>
        refine ⟨k+1,⟨some ⟨g,0,none⟩,k+1,c2⟩,l++ [v],a',oA,gnA,by simpa [bi] using E1,rfl,by simp [B5],?_,HA,B2,G9,C0.out⟩;intro x hx;rcases Ve.1 hx with hx|hx
        .exact D5 x hx
        .rw [VS.1 hx];exact G8
     .have hkN:k=N:=oA;have HB:=Hd (show bQ (fJ q.bs) N (q.at_+8)= .ok (l,a) by
       rw [D6.out,hkN,Ye];simp [bQ])
      have t0:decide ((k:Int)<(N:Int))=false:=soA;go_wp2_with fail;refine WR (v:= .tuple #[]) (WZ rfl _ _ _) rfl ?_;rw [E.out,HB.out];refine ⟨rfl,s,⟨by rw [A0];exact D,D.row,by rw [A0];exact B5,by rw [A0];exact D.le,D.cap_le,by rw [A0];omega,D5⟩,A8,A9,by show Blk wr xb (cs.setIfInBounds i (.slice s.a s.n s.c)) t;rw [A0];exact S⟩
 .obtain ⟨rfl,HC⟩:=h1 oA;have d:gK w q M xb t:=gK.loc I HC (VM HY.out.symm) rfl H R;have E:=Hd (show fj q.bs q.at_= .error q.bs.length by unfold fj iM bO;rw [Vz oA]);clear h1 h2;go_wp2_with fail;refine ⟨rfl,?_⟩;rw [E.out];exact ⟨rfl,d⟩
end
end Go.Proofs.YtioigihakjlopaaGreat

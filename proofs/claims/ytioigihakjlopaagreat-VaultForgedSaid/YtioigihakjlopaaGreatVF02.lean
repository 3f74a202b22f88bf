import Derived.Test.YtioigihakjlopaaGreatVF01
import Derived.Test.YtioigihakjlopaaGreatRows
namespace Go.Proofs.YtioigihakjlopaaGreat
open Go.Proofs.Tryz
set_option linter.unusedVariables false
set_option linter.unusedSimpArgs false
set_option maxHeartbeats 16000000
set_option maxRecDepth 100000
section
open Go.ChangeShapes Go.WideShapes Go.ChangeAt Go.RowKit
def eO (n:Int):Prop:=(Lit.int .i64 n).wf=true
def wf8 (n:Int):Prop:=(Lit.int .i8 n).wf=true
structure GN where
 id:Int
 card:Int
 harm:Int
 tired:Bool
deriving DecidableEq, Inhabited
def bi (n:Int):List Value:=[.int .i64 n]
def iO (w:World) (a:Option Addr) (n c:Nat) (l:List Int):Prop:=aw w a (l.map (Value.int .i64))/\l.length=n/\n<=c/\c<=maxLen/\n<=17592186044000/\∀x∈l,eO x
section
variable {H:Type} {enc:TypeId×Value->H} {w:World}
theorem MK:Tryz.prog.cellsOf 3=1:=by kernel_rfl
theorem i8c:Tryz.prog.cellsOf 32=1:=by kernel_rfl
theorem IR:Tryz.prog.cellsOf 34=1:=by kernel_rfl
theorem EX:Tryz.prog.bytesOf 3=8:=by kernel_rfl
theorem CY {v:Value} (h:qz enc prog w 34 [v]):∃a n c l,v= .slice a n c/\iO w a n c l:=by
 obtain ⟨a,len,cap,rfl,h1,h2,h3,h4,h5⟩:=h.slice underlying34;obtain ⟨l,hl,hr,hw⟩:=tC (g:=bi) (Ok:=eO) (fun _=>rfl) Nat.one_pos MK (fun cs hc hlen=>by
  match cs,hlen with
  | [c],_=>
   obtain ⟨n,rfl,hw⟩:=hc.int underlying3;exact ⟨n,rfl,hw⟩) h3 h5
 rw [EX] at h4;refine ⟨a,len,cap,l,rfl,?_,hl,h1,h2,oA,hw⟩;have e:l.flatMap bi=l.map (Value.int .i64):=by
  clear hl hr hw
  induction l with
  |nil=>rfl
  |cons x l ih=>rw [Vh,ih];rfl
 rw [<-e];exact hr
end
structure Sl where
 a:Option Addr
 n:Nat
 c:Nat
deriving Inhabited
def mI (w:World) (s:Sl) (l:List Int):Prop:=iO w s.a s.n s.c l
theorem iO.below {w w':World} {a:Option Addr} {n c:Nat} {l:List Int} (h:iO w a n c l) (hb:Below w.heap.size w w'):iO w' a n c l:=⟨h.1.below hb,h.2⟩
theorem mI.old {w w':World} {s:Sl} {l:List Int} (h:mI w s l) (hb:Below w.heap.size w w'):mI w' s l:=iO.below h hb
section
variable {H:Type} {enc:TypeId×Value->H} {w:World}
theorem kS {v:Value} (h:qz enc prog w 34 [v]):∃(s:Sl) (l:List Int),v= .slice s.a s.n s.c/\mI w s l:=by
 obtain ⟨a,n,c,l,e,h⟩:=CY h;exact ⟨⟨a,n,c⟩,l,e,h⟩
end
structure bK where
 at_:Int
 by_:Int
deriving DecidableEq, Inhabited
def bK.cells (x:bK):List Value:=[.int .i64 x.at_,.int .i64 x.by_]
def bK.wf (x:bK):Prop:=eO x.at_/\eO x.by_
def ju (w:World) (s:Sl) (l:List bK):Prop:=aw w s.a (l.flatMap bK.cells)/\l.length=s.n/\s.n<=s.c/\s.c<=maxLen/\s.n<=8796093021952/\∀x∈l,x.wf
theorem ju.old {w w':World} {s:Sl} {l:List bK} (h:ju w s l) (hb:Below w.heap.size w w'):ju w' s l:=⟨h.1.below hb,h.2⟩
theorem KN:Tryz.prog.cellsOf 36=1:=by kernel_rfl
theorem OE:Tryz.prog.cellsOf 157=2:=by kernel_rfl
theorem BI:Tryz.prog.bytesOf 157=16:=by kernel_rfl
theorem wW {H:Type} {enc:TypeId×Value->H} {w:World} {v:Value} (h:qz enc prog w 36 [v]):∃(s:Sl) (l:List bK),v= .slice s.a s.n s.c/\ju w s l:=by
 obtain ⟨a,len,cap,rfl,h1,h2,h3,h4,h5⟩:=h.slice underlying36;obtain ⟨l,hl,hr,hw⟩:=tC (g:=bK.cells) (Ok:=bK.wf) (fun _=>rfl) oA OE (fun cs hc hlen=>by
  match cs,hlen with
  | [c0,c1],_=>
   have f0:=hc.field underlying157 0 dcA;have f1:=hc.field underlying157 1 dcA;simp [MK] at f0 f1;obtain ⟨n0,rfl,w0⟩:=f0.int underlying3;obtain ⟨n1,rfl,w1⟩:=f1.int underlying3;exact ⟨⟨n0,n1⟩,rfl,w0,w1⟩) h3 h5
 rw [BI] at h4;exact ⟨⟨a,len,cap⟩,l,rfl,hr,hl,h1,h2,by show len<=_;omega,hw⟩
def av (w:World) (B:Nat) (s:Sl) (l:List Int):Prop:=Own w B 3 1 s.a s.n s.c (l.map (Value.int .i64))/\mI w s l
section
variable {w w':World} {B:Nat} {s:Sl} {l:List Int}
theorem av.at (a:av w B s l):mI w s l:=a.2
theorem av.old (a:av w B s l) (hb:Below w.heap.size w w'):av w' B s l:=⟨a.1.old hb,a.2.old hb⟩
theorem av.set (a:av w B s l) (x:Addr) (v:Value) (hx:x.block<B):av (w.setCell x v) B s l:=⟨a.1.setCell_lt x v hx,(a.1.setCell_lt x v hx).row,a.2.2⟩
theorem av.setRow (a:av w B s l) (g:Nat) (cs:Array Value) (hx:g<B):av (w.setRow g cs) B s l:=⟨a.1.setRow_lt g cs hx,(a.1.setRow_lt g cs hx).row,a.2.2⟩
theorem av.apart (h:av w B s l) {B':Nat} {T:TypeId} {size':Nat} {a:Option Addr} {n c:Nat} {vs:List Value} (ho:Own w B' T size' a n c vs) (hne:T≠3) (hg:w.grownBy w' (Value.slice a n c).ownBlock):av w' B s l:=⟨h.1.apart ho hne hg,(h.1.apart ho hne hg).row,h.2.2⟩
theorem av.lower (a:av w B s l) {B':Nat} (hB:B'<=B):av w B' s l:=⟨a.1.lower hB,a.2⟩
theorem av.mk' {w0:World} {s0:Sl} (h:Own w B 3 1 s.a s.n s.c (l.map (Value.int .i64))) (h0:mI w0 s0 l) (hn:s.n=s0.n):av w B s l:=⟨h,h.row,by rw [hn];exact h0.2.1,h.le,h.cap_le,by rw [hn];exact h0.2.2.2.2.1,h0.2.2.2.2.2⟩
theorem av.nil (w:World) (B:Nat):av w B ⟨none,0,0⟩ []:=⟨Own.nil _ _ _ _,aw.nil _ _,rfl,Lt _,by unfold maxLen;simp,skA,fun x hx=>by simp at hx⟩
end
def aN (w:World) (B:Nat) (s:Sl) (l:List bK):Prop:=Own w B 157 2 s.a s.n s.c (l.flatMap bK.cells)/\ju w s l
section
variable {w w':World} {B:Nat} {s:Sl} {l:List bK}
theorem aN.at (a:aN w B s l):ju w s l:=a.2
theorem aN.old (a:aN w B s l) (hb:Below w.heap.size w w'):aN w' B s l:=⟨a.1.old hb,a.2.old hb⟩
theorem aN.setRow (a:aN w B s l) (g:Nat) (cs:Array Value) (hx:g<B):aN (w.setRow g cs) B s l:=⟨a.1.setRow_lt g cs hx,(a.1.setRow_lt g cs hx).row,a.2.2⟩
theorem aN.lower (a:aN w B s l) {B':Nat} (hB:B'<=B):aN w B' s l:=⟨a.1.lower hB,a.2⟩
theorem aN.mk' {w0:World} {s0:Sl} (h:Own w B 157 2 s.a s.n s.c (l.flatMap bK.cells)) (h0:ju w0 s0 l) (hn:s.n=s0.n):aN w B s l:=⟨h,h.row,by rw [hn];exact h0.2.1,h.le,h.cap_le,by rw [hn];exact h0.2.2.2.2.1,h0.2.2.2.2.2⟩
theorem aN.nil (w:World) (B:Nat):aN w B ⟨none,0,0⟩ []:=⟨Own.nil _ _ _ _,aw.nil _ _,rfl,Lt _,by unfold maxLen;simp,skA,fun x hx=>by simp at hx⟩
end
structure bq where
 op:Int
 side:Int
 place:Int
 target:Int
 ids:List Int
 pairs:List bK
deriving DecidableEq, Inhabited
structure dt where
 ids:Sl
 pairs:Sl
deriving Inhabited
def ay (p:bq) (h:dt):List Value:=[.int .i8 p.op,.int .i64 p.side,.int .i64 p.place,.int .i64 p.target,.slice h.ids.a h.ids.n h.ids.c,.slice h.pairs.a h.pairs.n h.pairs.c]
def bI (p:bq) (h:dt):Value:= .agg #[.int .i8 p.op,.int .i64 p.side,.int .i64 p.place,.int .i64 p.target,.slice h.ids.a h.ids.n h.ids.c,.slice h.pairs.a h.pairs.n h.pairs.c]
theorem ed (p:bq) (h:dt):bI p h= .agg (ay p h).toArray:=rfl
structure eK (w:World) (p:bq) (h:dt):Prop where
 op:wf8 p.op
 side:eO p.side
 place:eO p.place
 target:eO p.target
 ids:mI w h.ids p.ids
 pairs:ju w h.pairs p.pairs
theorem eK.old {w w':World} {p:bq} {h:dt} (a:eK w p h) (hb:Below w.heap.size w w'):eK w' p h:=
 ⟨a.op,a.side,a.place,a.target,a.ids.old hb,a.pairs.old hb⟩
structure bh (w:World) (B:Nat) (p:bq) (h:dt):Prop where
 op:wf8 p.op
 side:eO p.side
 place:eO p.place
 target:eO p.target
 ids:av w B h.ids p.ids
 pairs:aN w B h.pairs p.pairs
theorem bh.at {w:World} {B:Nat} {p:bq} {h:dt} (a:bh w B p h):eK w p h:=⟨a.op,a.side,a.place,a.target,a.ids.at,a.pairs.at⟩
theorem bh.old {w w':World} {B:Nat} {p:bq} {h:dt} (a:bh w B p h) (hb:Below w.heap.size w w'):bh w' B p h:=⟨a.op,a.side,a.place,a.target,a.ids.old hb,a.pairs.old hb⟩
theorem bh.setRow {w:World} {B:Nat} {p:bq} {h:dt} (a:bh w B p h) (g:Nat) (cs:Array Value) (hx:g<B):bh (w.setRow g cs) B p h:=⟨a.op,a.side,a.place,a.target,a.ids.setRow g cs hx,a.pairs.setRow g cs hx⟩
theorem bh.lower {w:World} {B:Nat} {p:bq} {h:dt} (a:bh w B p h) {B':Nat} (hB:B'<=B):bh w B' p h:=⟨a.op,a.side,a.place,a.target,a.ids.lower hB,a.pairs.lower hB⟩
section
variable {H:Type} {enc:TypeId×Value->H} {w:World}
theorem wX {cs:List Value} (hlen:cs.length=6) (hc:qz enc prog w 38 cs):∃(p:bq) (h:dt),cs=ay p h/\eK w p h:=by
 have f0:=hc.field underlying38 0 dcA;have f1:=hc.field underlying38 1 dcA;have f2:=hc.field underlying38 2 dcA;have f3:=hc.field underlying38 3 dcA;have f4:=hc.field underlying38 4 dcA;have f5:=hc.field underlying38 5 dcA
 match cs,hlen with
 | [c0,c1,c2,c3,c4,c5],_=>
  simp [i8c,MK,IR,KN] at f0 f1 f2 f3 f4 f5;obtain ⟨n0,rfl,w0⟩:=f0.int underlying32;obtain ⟨n1,rfl,w1⟩:=f1.int underlying3;obtain ⟨n2,rfl,w2⟩:=f2.int underlying3;obtain ⟨n3,rfl,w3⟩:=f3.int underlying3;obtain ⟨s4,l4,rfl,w4⟩:=kS f4;obtain ⟨s5,l5,rfl,w5⟩:=wW f5;refine ⟨⟨n0,n1,n2,n3,l4,l5⟩,⟨s4,s5⟩,?_,⟨w0,w1,w2,w3,w4,w5⟩⟩;rfl
end
end
section
abbrev bz:=ByteArray
structure dx where
 name:bz
 b:List UInt8
 sure:Nat
 deriving DecidableEq
abbrev eA:=List (bz×Int)
structure aM where
 fs:List dx
 down:Bool
 armed:Bool
 left:Int
 plan:eA
def qQ (plan:eA) (nm:bz):Int:=((plan.find? fun x=>x.1=nm).map fun x=>x.2).getD 0
def ip (plan:eA) (f:dx):Nat:=(if plan.any (fun x=>x.1=f.name) then min (max (qQ plan f.name) 0) ((f.b.length:Int)-f.sure) else 0).toNat
def im (plan:eA) (f:dx):dx:={f with b:=f.b.take (f.sure+ip plan f),sure:=f.sure+ip plan f}
def lq (p:aM) (plan:eA):aM:={p with fs:=p.fs.map (im plan),down:=true,armed:=false}
def dz (p:aM):aM×Int:=if p.armed=false then (p,0) else if 0<p.left then ({p with left:=p.left-1},0) else (lq p p.plan,5)
def eW (p:aM) (nm:bz):Option dx:=p.fs.find? fun f=>f.name=nm
def AN (fs:List dx) (nm:bz) (g:dx->dx):List dx:=fs.map fun f=>if f.name=nm then g f else f
def jQ (p:aM) (nm:bz) (g:dx->dx):aM:={p with fs:=AN p.fs nm g}
def cZ (nm:bz):Bool:=decide (nm.size≠0)&&decide (nm.size<=40)
def fh:Nat:=1048576
def ew (p:aM) (nm:bz):aM×Int:=
 if p.down then (p,5) else if cZ nm=false then (p,2) else if (eW p nm).isSome then (p,101) else if 64<=p.fs.length then (p,100)
 else ({p with fs:=p.fs++ [⟨nm,[],0⟩]},0)
def lH (p:aM) (nm:bz) (g:dx->aM×Int):aM×Int:=
 if p.down then (p,5) else match eW p nm with
  |none=>(p,4)
  |some f=>g f
def bt (p:aM) (nm:bz) (b:List UInt8):aM×Int:=
 lH p nm fun f=>if fh-f.b.length<b.length then (p,3) else dz (jQ p nm fun f=>{f with b:=f.b++b})
def eL (p:aM) (nm:bz):aM×Int:=
 lH p nm fun _=>if (dz p).2=0 then (jQ (dz p).1 nm fun f=>{f with sure:=f.b.length},0) else dz p
def jh (p:aM) (nm:bz) (n:Int):aM×Int:=
 lH p nm fun f=>if n<0\/(f.b.length:Int)<n then (p,2) else (jQ p nm fun f=>{f with b:=f.b.take n.toNat,sure:=n.toNat},0)
def bG (p:aM) (nm:bz):List UInt8×Int:=if p.down then ([],5) else match eW p nm with
 |none=>([],4)
 |some f=>(f.b,0)
def dE (p:aM) (plan:eA):aM×Int:=if p.down then (p,5) else (lq p plan,0)
def sM (p:aM):aM×Int:=if p.down then ({p with down:=false},0) else (p,2)
def GG (p:aM) (n:Int) (plan:eA):aM×Int:=if p.down then (p,5) else if n<0 then (p,2) else ({p with armed:=true,left:=n,plan:=plan},0)
structure dN (p:aM):Prop where
 names:(p.fs.map (·.name)).Nodup
 named:∀f∈p.fs,cZ f.name=true
 sure:∀f∈p.fs,f.sure<=f.b.length
 size:∀f∈p.fs,f.b.length<=fh
 count:p.fs.length<=64
 left:0<=p.left/\p.left<=9223372036854775807
theorem my (plan:eA) (f:dx) (h:f.sure<=f.b.length):f.sure+ip plan f<=f.b.length:=by
 unfold ip;split<;>omega
theorem kQ (plan:eA) (f:dx) (h:f.sure<=f.b.length):(im plan f).b.length=f.sure+ip plan f:=by
 have:=my plan f h;simp [im];omega
theorem BZ {fs:List dx} {g:dx->dx} (h:∀f∈fs,(g f).name=f.name):(fs.map g).map (·.name)=fs.map (·.name):=by
 rw [WB];exact WS h
theorem dN.map {p:aM} (h:dN p) (g:dx->dx) (h1:∀f∈p.fs,(g f).name=f.name) (h2:∀f∈p.fs,(g f).sure<=(g f).b.length) (h3:∀f∈p.fs,(g f).b.length<=fh) (d a:Bool) (l:Int) (hl:0<=l/\l<=9223372036854775807) (pl:eA):dN ⟨p.fs.map g,d,a,l,pl⟩:=by
 refine ⟨?_,?_,?_,?_,by simpa using h.count,hl⟩
 .show ((p.fs.map g).map (·.name)).Nodup;rw [BZ h1];exact h.names
 .intro f hf;obtain ⟨f0,hf0,rfl⟩:=VY.1 hf;rw [h1 f0 hf0];exact h.named f0 hf0
 .intro f hf;obtain ⟨f0,hf0,rfl⟩:=VY.1 hf;exact h2 f0 hf0
 .intro f hf;obtain ⟨f0,hf0,rfl⟩:=VY.1 hf;exact h3 f0 hf0
theorem dN.upd {p:aM} (h:dN p) (nm:bz) (g:dx->dx) (h1:∀f∈p.fs,(g f).name=f.name) (h2:∀f∈p.fs,f.name=nm->(g f).sure<=(g f).b.length) (h3:∀f∈p.fs,f.name=nm->(g f).b.length<=fh):dN (jQ p nm g):=by
 refine h.map (fun f=>if f.name=nm then g f else f) (fun f hf=> ?_) (fun f hf=> ?_) (fun f hf=> ?_) _ _ _ h.left _
 all_goals
  (try dsimp only)
  by_cases e:f.name=nm
  .rw [if_pos e]
   first|exact h1 f hf|exact h2 f hf e|exact h3 f hf e
  .rw [if_neg e]
   try (first|rfl|exact h.sure f hf|exact h.size f hf)
theorem CD {fs:List dx} (hn:(fs.map (·.name)).Nodup) {f:dx} (hf:f∈fs):fs.find? (fun x=>x.name=f.name)=some f:=by
 induction fs with
 |nil=>cases hf
 |cons x l ih=>
  simp only [WY,XH] at hn;rcases Ve.1 hf with rfl|hf'
  .simp
  .have hne:¬x.name=f.name:=fun e=>hn.1 (e▸WX hf');rw [XL,Vd hne];exact ih hn.2 hf'
theorem CE {p:aM} {nm:bz} {f:dx} (h:eW p nm=some f):f∈p.fs/\f.name=nm:=by
 refine ⟨List.mem_of_find?_eq_some h,?_⟩;have:=List.find?_some h;simpa using this
end
section
open Go.RowKit
def be8 (n:Int):List UInt8:=(List.range 8).map fun i=>⟨((BitVec.ofInt 64 n)>>>(56-8*i)).setWidth 8⟩
theorem yI (n:Int) (k:Nat):IntKind.u8.wrap (IntKind.u64.wrap n/2^k)=U8 ⟨((BitVec.ofInt 64 n)>>>k).setWidth 8⟩:=by
 have e:IntKind.u64.wrap n=U64 (BitVec.ofInt 64 n):=by
  simp only [U64,Wp,IntKind.wrap,IntKind.bits,IntKind.signed];simp;omega
 rw [e,xk];have:=FH (BitVec.ofInt 64 n>>>k);rw [<-this];simp [IntKind.wrap,IntKind.bits,IntKind.signed]
theorem FA (n:Int) (i:Nat) (h:i<8):(be8 n).take (i+1)=(be8 n).take i++ [⟨((BitVec.ofInt 64 n)>>>(56-8*i)).setWidth 8⟩]:=by
 rw [VW (by simp [be8];exact h)];simp [be8]
theorem au (n:Int):(be8 n).length=8:=by simp [be8]
def tr1 (b:Bool):List UInt8:=[if b then 1 else 0]
def iv (l:List Int):List UInt8:=be8 l.length++l.flatMap be8
def KE (u:GN):List UInt8:=be8 u.id++be8 u.card++be8 u.harm++tr1 u.tired
def encU (l:List GN):List UInt8:=be8 l.length++l.flatMap KE
def lF (u:bK):List UInt8:=be8 u.at_++be8 u.by_
def Jl (l:List bK):List UInt8:=be8 l.length++l.flatMap lF
def dq (p:bq):List UInt8:=be8 p.op++be8 p.side++be8 p.place++be8 p.target++iv p.ids++Jl p.pairs
abbrev Rd (α:Type):=Except Nat (α×Nat)
def thn {α β:Type} (x:Rd α) (f:α->Nat->Rd β):Rd β:=match x with
 | .error p=> .error p
 | .ok y=>f y.1 y.2
def rdB (l:List UInt8):BitVec 64:=l.foldl (fun n y=>n<<<8|||y.toBitVec.setWidth 64) 0
def bB (bs:List UInt8) (at_:Nat):Rd Int:=
 if bs.length<at_+8 then .error bs.length else .ok ((rdB ((bs.drop at_).take 8)).toInt,at_+8)
def dQ (bs:List UInt8) (at_:Nat):Rd Int:=match bB bs at_ with
 | .error p=> .error p
 | .ok (n,a)=>if n< -128\/127<n then .error at_ else .ok (n,a)
def bC {α:Type} (one:Nat->Rd α):Nat->Nat->Rd (List α)
 |0,a=> .ok ([],a)
 |n+1,a=>match one a with
  | .error p=> .error p
  | .ok (x,b)=>match bC one n b with
   | .error p=> .error p
   | .ok (l,c)=> .ok (x::l,c)
def ik {α:Type} (bs:List UInt8) (each:Nat) (one:Nat->Rd α) (at_:Nat):Rd (List α):=match bB bs at_ with
 | .error p=> .error p
 | .ok (n,a)=>if n<0\/((bs.length:Int)-a).tdiv each<n then .error at_ else bC one n.toNat a
def fi (bs:List UInt8) (at_:Nat):Rd bK:=
 thn (bB bs at_) fun i a=>
 thn (bB bs a) fun c a=>
 .ok (⟨i,c⟩,a)
def gA (bs:List UInt8) (at_:Nat):Rd (List Int):=ik bs 8 (bB bs) at_
def eS (bs:List UInt8) (at_:Nat):Rd (List bK):=ik bs 16 (fi bs) at_
def eI (bs:List UInt8) (at_:Nat):Rd bq:=
 thn (dQ bs at_) fun op a=>
 thn (bB bs a) fun side a=>
 thn (bB bs a) fun place a=>
 thn (bB bs a) fun target a=>
 thn (gA bs a) fun ids a=>
 thn (eS bs a) fun pairs a=>
 .ok (⟨op,side,place,target,ids,pairs⟩,a)
def fZ {α:Type} (one:List UInt8->Nat->Rd α) (bs:List UInt8):Except Nat α:=match one bs 0 with
 | .error p=> .error p
 | .ok (x,a)=>if a<bs.length then .error a else .ok x
section
variable {P:Program} {ops:Array Oper} {Q:Exit->Act->World->Prop} {md:Region.Mode} {R:World->World->Prop}
def eG (P:Program) (ops:Array Oper) (R:World->World->Prop) (o:Oper) (v:Value) (a:Act) (w:World):Prop:=
 (Region.wanted o (yielded ops a.tmps)=true/\∀w',R w w'->(execOp a.eval o).run P w'= .ok (.value v) w')\/
 (Region.wanted o (yielded ops a.tmps)=false/\v=undef)
theorem eG.wpOp {i:Nat} {o:Oper} {v:Value} {a:Act} {w:World} (hi:ops[i]? =some o) (hy:eG P ops R o v a w)
  {K:Act->World->Prop} (hS:R w w) (h:K (a.put o.dst v) w):wpOp P ops Q i K a w:=by
 unfold Go.wpOp;simp only [hi];rcases hy with ⟨hw,hv⟩|⟨hw,rfl⟩
 .simp only [hw,if_true,Oper.wp,hv w hS,Oper.upon];exact .inl h
 .simp only [hw,Bool.false_eq_true,if_false];exact h
theorem eG.of_same {o:Oper} {v:Value} {a a':Act} {w:World} (hy:eG P ops R o v a w) (he:execOp a'.eval o=execOp a.eval o)
  (hw:Region.wanted o (yielded ops a'.tmps)=Region.wanted o (yielded ops a.tmps)):eG P ops R o v a' w:=by
 unfold eG at*;rw [he,hw];exact hy
theorem eG.later (ht:∀x y z,R x y->R y z->R x z) {o:Oper} {v:Value} {a:Act} {w w':World} (hy:eG P ops R o v a w) (hR:R w w'):eG P ops R o v a w':=
 hy.imp (fun ⟨h1,h2⟩=>⟨h1,fun w2 h=>h2 w2 (ht _ _ _ hR h)⟩) id
theorem tL {j:Nat} {oi oj:Oper} {v:Value} (hj:ops[j]? =some oj) (hap:oi.apart ops oj=true)
  (hsi:∀cs b,oi.op≠ .select cs b) (hsj:∀cs b,oj.op≠ .select cs b)
  (hQ:∀c a w,Q (.panic c) (a.put oi.dst v) w->Q (.panic c) a w) {K:Act->World->Prop} {a:Act} {w:World}
  (hy:eG P ops R oi v a w) (h:wpOp P ops Q j K (a.put oi.dst v) w):
  wpOp P ops Q j (fun a' w'=>eG P ops R oi v a' w/\K (a'.put oi.dst v) w') a w:=by
 obtain ⟨h1,h2,h3⟩:=Oper.apart_spec hap;have keep:∀(a:Act),eG P ops R oi v a w->∀u,eG P ops R oi v (a.put oj.dst u) w:=fun a hy u=>
  hy.of_same (execOp_put oi hsi a oj.dst u h3) (wanted_put oi a oj.dst u h3)
 have keepD:∀d,eG P ops R oi v {a with defers:=d::a.defers} w:=fun d=>hy.of_same rfl rfl;unfold wpOp at*;simp only [hj] at*;rw [wanted_put oj a oi.dst v h1] at h;split
 .rename_i hw;simp only [hw,if_true] at h;rcases h with h|⟨hasks,hlets⟩
  case inr=>exact .inr ⟨by unfold Oper.asks at*;rw [execOp_put oj hsj a oi.dst v h1] at hasks;exact hasks,hlets⟩
  refine .inl ?_;unfold Oper.wp at*;rw [execOp_put oj hsj a oi.dst v h1] at h;generalize (execOp a.eval oj).run P w=r at*;cases r with
  |ok n w'=>
   cases n<;>simp only [Oper.upon] at h⊢
   case value u=>exact ⟨keep a hy u,by rw [<-Act.put_comm a v u h2];exact h⟩
   case skip=>exact ⟨keep a hy _,by rw [<-Act.put_comm a v undef h2];exact h⟩
   case defer d=>
    refine ⟨keep _ (keepD d) _,?_⟩;rw [<-Act.put_comm _ v undef h2,<-Act.put_defers];exact h
   case enter f args=>
    refine Calls.mono h fun e w'' he=> ?_;cases e with
    |returned u=>exact ⟨keep a hy u,by rw [<-Act.put_comm a v u h2];exact he⟩
    |panicked c=>exact hQ _ _ _ he
    |outgrown=>exact he
   case row row args=>exact Rows.mono h fun u w'' he=>⟨keep a hy u,by rw [<-Act.put_comm a v u h2];exact he⟩
  |halt x w'=>
   cases x<;>simp only [Oper.upon] at h⊢
   case panic u=>exact hQ _ _ _ h
 .rename_i hw;simp only [hw] at h;exact ⟨keep a hy _,by rw [<-Act.put_comm a v undef h2];exact h⟩
def tP (P:Program) (md:Region.Mode) (ops:Array Oper) (Q:Exit->Act->World->Prop) (R:World->World->Prop):Nat->Array Bool->Act->World->Prop
 |0,listed,a,w=>Region.ready md ops listed=[]/\Q .normal a w
 |fuel+1,listed,a,w=>
  (Region.ready md ops listed=[]->Q .normal a w)/\
  ∀i∈Region.ready md ops listed,wpOp P ops Q i (fun a' w'=>R w w'/\tP P md ops Q R fuel (listed.setIfInBounds i true) a' w') a w
theorem qV:∀(fuel:Nat) (listed:Array Bool) (a:Act) (w:World),tP P md ops Q R fuel listed a w->wpAny P md ops Q fuel listed a w
 |0,_,_,_,h=>h
 |fuel+1,_,_,_,h=>⟨h.1,fun i hi=>wpOp_mono (fun a' w' h'=>qV fuel _ a' w' h'.2) (h.2 i hi)⟩
theorem tO (hrefl:∀w,R w w) (ht:∀x y z,R x y->R y z->R x z) {i:Nat} {oi:Oper} {v:Value} (hi:ops[i]? =some oi) (hsel:∀(j:Nat) (o:Oper) cs b,ops[j]? =some o->o.op≠ .select cs b)
  (hQ:∀c a w,Q (.panic c) (a.put oi.dst v) w->Q (.panic c) a w):
  ∀(fuel:Nat) (listed:Array Bool) (a:Act) (w:World),
   (∀j oj,ops[j]? =some oj->j≠i->listed.getD j true=false->(∀e∈oj.after,Region.binds md e=true->e.on≠i)->oi.apart ops oj=true)->
   i∈Region.ready md ops listed->eG P ops R oi v a w->
   tP P md ops Q R fuel (listed.setIfInBounds i true) (a.put oi.dst v) w->tP P md ops Q R (fuel+1) listed a w:=by
 intro fuel
 induction fuel with
 |zero=>
  intro listed a w _ hr hy H;refine ⟨fun h=>(by rw [h] at hr;cases hr),fun j hj=> ?_⟩;by_cases hji:j=i
  .subst hji;exact hy.wpOp hi (hrefl w) ⟨hrefl w,H⟩
  .have:=ready_mono hj hji;rw [H.1] at this;cases this
 |succ fuel ih=>
  intro listed a w hfree hr hy H;refine ⟨fun h=>(by rw [h] at hr;cases hr),fun j hj=> ?_⟩;by_cases hji:j=i
  .subst hji;exact hy.wpOp hi (hrefl w) ⟨hrefl w,H⟩
  .have h1:=H.2 j (ready_mono hj hji);obtain ⟨hjun,oj,hoj,hall⟩:=mem_ready.1 hj;have hnot:∀e∈oj.after,Region.binds md e=true->e.on≠i:=fun e he hb heq=>by
    have h1:=hall e he hb;have h0:=(mem_ready.1 hr).1;rw [heq] at h1;rcases Nat.lt_or_ge i listed.size with h'|h'
    .simp [h'] at h0 h1;rw [h0] at h1;cases h1
    .simp [Vy h'] at h1
   have h2:=tL hoj (hfree j oj hoj hji hjun hnot) (fun cs b=>hsel i oi cs b hi) (fun cs b=>hsel j oj cs b hoj) hQ hy h1;have hfree':∀k ok,ops[k]? =some ok->k≠i->(listed.setIfInBounds j true).getD k true=false->
     (∀e∈ok.after,Region.binds md e=true->e.on≠i)->oi.apart ops ok=true:=fun k ok hk hki hun hno=>by
    refine hfree k ok hk hki ?_ hno;by_cases hjk:j=k
    .subst hjk;exact hjun
    .rw [getD_set_ne true hjk] at hun;exact hun
   refine wpOp_mono (fun a' w' h3=>⟨h3.2.1,ih (listed.setIfInBounds j true) a' w' hfree' (ready_mono hr (Vf hji)) (h3.1.later ht h3.2.1) ?_⟩) h2;rw [Array.setIfInBounds_comm _ _ hji];exact h3.2.2
def gD:Op->Bool
 | .alloc _| .box .. | .buildSlice .. | .insert .. | .store .. | .makeMap .. | .makeChan .. | .makeSlice .. | .makeFunc .. | .mapUpdate .. | .mapEntry .. | .entryStore .. | .range .. | .next .. | .panic _| .send .. | .recv .. | .select .. | .go _| .defer _=>true
 | .call {callee:= .builtin .len,..}=>false
 | .call {callee:= .builtin .cap,..}=>false
 | .call {callee:= .builtin .min,..}=>false
 | .call {callee:= .builtin .max,..}=>false
 | .call _=>true
 |_=>false
def KR (md:Region.Mode) (ops:Array Oper):List Nat->Array Bool->Bool
 | [],listed=>(Region.ready md ops listed).isEmpty
 |i::r,listed=>(if ((ops[i]?).map fun o=>gD o.op).getD true then Region.ready md ops listed==[i] else (Region.ready md ops listed).contains i&&Region.free md ops listed i)&&KR md ops r (listed.setIfInBounds i true)
def Lf (ops:Array Oper) (order:List Nat):Bool:=Region.noSelect ops&&order.length==ops.size&&KR .any ops order (Array.replicate ops.size false)
def dj (P:Program) (ops:Array Oper) (Q:Exit->Act->World->Prop) (R:World->World->Prop):List Nat->Act->World->Prop
 | [],a,w=>Q .normal a w
 |i::rest,a,w=>
  match ops[i]? with
  |none=>False
  |some o=>
   if Region.wanted o (yielded ops a.tmps) then
    if gD o.op then o.wp P a w (fun a' w'=>R w w'/\dj P ops Q R rest a' w') Q
    else ∃v,(∀w',R w w'->(execOp a.eval o).run P w'= .ok (.value v) w')/\dj P ops Q R rest (a.put o.dst v) w
   else dj P ops Q R rest (a.put o.dst undef) w
theorem kF (hrefl:∀w,R w w) (ht:∀x y z,R x y->R y z->R x z) (hs:Region.noSelect ops=true)
  (hQ:∀c a d v w,Q (.panic c) (a.put d v) w->Q (.panic c) a w):∀(l:List Nat) (listed:Array Bool) (a:Act) (w:World),
  KR md ops l listed=true->dj P ops Q R l a w->tP P md ops Q R l.length listed a w
 | [],_,_,_,hB,h=>⟨by simpa [KR] using hB,h⟩
 |k::l,listed,a,w,hB,h=>by
  cases h0:ops[k]? with
  |none=>simp only [dj,h0] at h
  |some o=>
   simp only [KR,h0,Xf,Option.getD_some,VN] at hB;obtain ⟨hr,hB'⟩:=hB;simp only [VT];simp only [dj,h0] at h;by_cases hloud:gD o.op=true
   .rw [if_pos hloud] at hr;have hr':Region.ready md ops listed=[k]:=(by simpa using hr);refine ⟨fun h=>(by rw [h] at hr';cases hr'),fun i hi=> ?_⟩;rw [hr'] at hi;obtain rfl:=VH.1 hi;unfold wpOp;simp only [h0];split
    .rename_i hw;rw [if_pos hw,if_pos hloud] at h;exact .inl (Oper.wp_mono (fun a' w' h3=>⟨h3.1,kF hrefl ht hs hQ l _ a' w' hB' h3.2⟩) h)
    .rename_i hw;rw [if_neg hw] at h;exact ⟨hrefl w,kF hrefl ht hs hQ l _ _ w hB' h⟩
   .rw [if_neg hloud] at hr;simp only [VN] at hr;obtain ⟨hr1,hf⟩:=hr;have hy:∃v,eG P ops R o v a w/\dj P ops Q R l (a.put o.dst v) w:=by
     by_cases hw:Region.wanted o (yielded ops a.tmps)=true
     .rw [if_pos hw,if_neg hloud] at h;obtain ⟨v,h1,h2⟩:=h;exact ⟨v,.inl ⟨hw,h1⟩,h2⟩
     .rw [if_neg hw] at h;exact ⟨undef,.inr ⟨by simpa using hw,rfl⟩,h⟩
    obtain ⟨v,hy,hK⟩:=hy;exact tO hrefl ht h0 (Region.noSelect_spec hs) (fun c a w=>hQ c a _ _ w) l.length listed a w (Region.free_spec h0 hf) (by simpa using hr1) hy
     (kF hrefl ht hs hQ l _ _ w hB' hK)
theorem lf {id:Nat} {a:Act} {w:World} (order:List Nat) (hrefl:∀w,R w w) (ht:∀x y z,R x y->R y z->R x z) (hm:P.follows .mixedOrders=true) (hB:Lf ops order=true)
  (hQ:∀c a d v w,Q (.panic c) (a.put d v) w->Q (.panic c) a w)
  (h:dj P ops Q R order a w.drew):(Code.region id ops true).wp P Q a w:=by
 simp only [Lf,VN] at hB;refine wp_region_any hm (qV _ _ _ _ (R:=R) ?_);have:=kF (R:=R) (md:= .any) hrefl ht hB.1.1 hQ order (Array.replicate ops.size false) a w.drew hB.2 h;rwa [show order.length=ops.size by simpa using hB.1.2] at this
end
def oD (o:Oper):Bool:=match o.op with
 | .store .. =>true
 | .mapUpdate .. =>true
 |_=>false
def vy (m:Bool) (o:Oper):Bool:=m&&oD o
def nz (m:Bool) (ops:Array Oper) (i:Nat):Bool:=((ops[i]?).map (vy m)).getD false
def Fs (md:Region.Mode) (ops:Array Oper):Nat->Nat->Nat->Bool
 |0,_,_=>false
 |f+1,j,i=>match ops[j]? with
  |none=>false
  |some o=>o.after.any fun e=>Region.binds md e&&(e.on==i||Fs md ops f e.on i)
def xw (m:Bool) (md:Region.Mode) (ops:Array Oper) (listed:Array Bool) (i:Nat):Bool:=
 (List.range ops.size).all fun j=>j==i||listed.getD j true||(match ops[j]? with
  |none=>true
  |some o=> !vy m o||Fs md ops ops.size j i)
def kD (md:Region.Mode) (ops:Array Oper) (listed:Array Bool):Prop:=
 ∀(k:Nat) (o:Oper),ops[k]? =some o->listed.getD k false=true->∀e∈o.after,Region.binds md e=true->listed.getD e.on false=true
theorem kD.none (md:Region.Mode) (ops:Array Oper) (n:Nat):kD md ops (Array.replicate n false):=by
 intro k o _ h;by_cases hk:k<n<;>simp [hk] at h
theorem kD.set {md:Region.Mode} {ops:Array Oper} {listed:Array Bool} (h:kD md ops listed) {k:Nat} (hk:k∈Region.ready md ops listed):kD md ops (listed.setIfInBounds k true):=by
 intro m o ho hm e he hb;obtain ⟨_,ok,hok,hall⟩:=mem_ready.1 hk;refine getD_set_true ?_;by_cases hmk:k=m
 .subst hmk;rw [hok] at ho;cases ho;exact hall e he hb
 .rw [getD_set_ne false hmk] at hm;exact h m o ho hm e he hb
theorem ql {md:Region.Mode} {ops:Array Oper} {listed:Array Bool} (hc:kD md ops listed) {i:Nat}:∀(f j:Nat) (o:Oper),ops[j]? =some o->(∀e∈o.after,Region.binds md e=true->listed.getD e.on false=true)->Fs md ops f j i=true->listed.getD i false=true
 |0,_,_,_,_,h=>by simp [Fs] at h
 |f+1,j,o,ho,hall,h=>by
  simp only [Fs,ho] at h;obtain ⟨e,he,h⟩:=Array.any_eq_true'.1 h;simp only [VN,Bool.or_eq_true,Xj] at h;obtain ⟨hb,rfl|h⟩:=h
  .exact hall e he hb
  .cases hq:ops[e.on]? with
   |none=>
    cases f with
    |zero=>simp [Fs] at h
    |succ f=>simp [Fs,hq] at h
   |some o'=>exact ql hc f e.on o' hq (hc e.on o' hq (hall e he hb)) h
def qW (m:Bool) (P:Program) (md:Region.Mode) (ops:Array Oper) (Q:Exit->Act->World->Prop) (R:World->World->Prop):Nat->Array Bool->Act->World->Prop
 |0,listed,a,w=>Region.ready md ops listed=[]/\Q .normal a w
 |fuel+1,listed,a,w=>
  (Region.ready md ops listed=[]->Q .normal a w)/\
  ∀i∈Region.ready md ops listed,wpOp P ops Q i (fun a' w'=>(nz m ops i=true\/R w w')/\qW m P md ops Q R fuel (listed.setIfInBounds i true) a' w') a w
section
variable {m:Bool} {P:Program} {ops:Array Oper} {Q:Exit->Act->World->Prop} {md:Region.Mode} {R:World->World->Prop}
theorem mP:∀(fuel:Nat) (listed:Array Bool) (a:Act) (w:World),qW m P md ops Q R fuel listed a w->wpAny P md ops Q fuel listed a w
 |0,_,_,_,h=>h
 |fuel+1,_,_,_,h=>⟨h.1,fun i hi=>wpOp_mono (fun a' w' h'=>mP fuel _ a' w' h'.2) (h.2 i hi)⟩
theorem rY {listed:Array Bool} {i:Nat} (h:xw m md ops listed i=true):∀j oj,ops[j]? =some oj->vy m oj=true->j≠i->listed.getD j true=false->Fs md ops ops.size j i=true:=by
 intro j oj hj hw hne hl;have hlt:j<ops.size:=(VK.1 hj).1;have:=XA.1 h j (Wk.2 hlt);simp only [hj,hw,hl,Bool.not_true,Bool.false_or,Bool.or_false,Bool.or_eq_true,Xj] at this;rcases this with h|h
 .exact absurd h hne
 .exact h
theorem tM (hrefl:∀w,R w w) (ht:∀x y z,R x y->R y z->R x z) {i:Nat} {oi:Oper} {v:Value} (hi:ops[i]? =some oi) (hsel:∀(j:Nat) (o:Oper) cs b,ops[j]? =some o->o.op≠ .select cs b)
  (hQ:∀c a w,Q (.panic c) (a.put oi.dst v) w->Q (.panic c) a w):
  ∀(fuel:Nat) (listed:Array Bool) (a:Act) (w:World),
   (∀j oj,ops[j]? =some oj->j≠i->listed.getD j true=false->(∀e∈oj.after,Region.binds md e=true->e.on≠i)->oi.apart ops oj=true)->
   kD md ops listed->(∀j oj,ops[j]? =some oj->vy m oj=true->j≠i->listed.getD j true=false->Fs md ops ops.size j i=true)->
   i∈Region.ready md ops listed->eG P ops R oi v a w->
   qW m P md ops Q R fuel (listed.setIfInBounds i true) (a.put oi.dst v) w->qW m P md ops Q R (fuel+1) listed a w:=by
 intro fuel
 induction fuel with
 |zero=>
  intro listed a w _ _ _ hr hy H;refine ⟨fun h=>(by rw [h] at hr;cases hr),fun j hj=> ?_⟩;by_cases hji:j=i
  .subst hji;exact hy.wpOp hi (hrefl w) ⟨.inr (hrefl w),H⟩
  .have:=ready_mono hj hji;rw [H.1] at this;cases this
 |succ fuel ih=>
  intro listed a w hfree hcl hwild hr hy H;refine ⟨fun h=>(by rw [h] at hr;cases hr),fun j hj=> ?_⟩;by_cases hji:j=i
  .subst hji;exact hy.wpOp hi (hrefl w) ⟨.inr (hrefl w),H⟩
  .have h1:=H.2 j (ready_mono hj hji);obtain ⟨hjun,oj,hoj,hall⟩:=mem_ready.1 hj;have hnot:∀e∈oj.after,Region.binds md e=true->e.on≠i:=fun e he hb heq=>by
    have h1:=hall e he hb;have h0:=(mem_ready.1 hr).1;rw [heq] at h1;rcases Nat.lt_or_ge i listed.size with h'|h'
    .simp [h'] at h0 h1;rw [h0] at h1;cases h1
    .simp [Vy h'] at h1
   have hnw:nz m ops j≠true:=fun hw=>by
    have hw':vy m oj=true:=(by simpa [nz,hoj] using hw);have h1:=ql hcl _ j oj hoj hall (hwild j oj hoj hw' hji hjun);have h0:=(mem_ready.1 hr).1;rcases Nat.lt_or_ge i listed.size with h'|h'
    .simp [h'] at h0 h1;rw [h0] at h1;cases h1
    .simp [Vy h'] at h1
   have h2:=tL hoj (hfree j oj hoj hji hjun hnot) (fun cs b=>hsel i oi cs b hi) (fun cs b=>hsel j oj cs b hoj) hQ hy h1;have hun':∀k,(listed.setIfInBounds j true).getD k true=false->listed.getD k true=false:=fun k hun=>by
    by_cases hjk:j=k
    .subst hjk;exact hjun
    .rw [getD_set_ne true hjk] at hun;exact hun
   refine wpOp_mono (fun a' w' h3=>⟨h3.2.1,?_⟩) h2;have hR:R w w':=h3.2.1.resolve_left hnw;refine ih (listed.setIfInBounds j true) a' w' (fun k ok hk hki hun hno=>hfree k ok hk hki (hun' k hun) hno) (hcl.set hj) (fun k ok hk hw hki hun=>hwild k ok hk hw hki (hun' k hun)) (ready_mono hr (Vf hji)) (h3.1.later ht hR) ?_;rw [Array.setIfInBounds_comm _ _ hji];exact h3.2.2
end
inductive qE where
 |done
 |step (i:Nat) (p:qE)
 |fork (l:List (Nat×qE))
mutual
def Ik (m:Bool) (md:Region.Mode) (ops:Array Oper):qE->Array Bool->Bool
 | .done,listed=>(Region.ready md ops listed).isEmpty
 | .step i p,listed=>(if ((ops[i]?).map fun o=>gD o.op).getD true then Region.ready md ops listed==[i] else (Region.ready md ops listed).contains i&&Region.free md ops listed i&&xw m md ops listed i)&&Ik m md ops p (listed.setIfInBounds i true)
 | .fork l,listed=> !l.isEmpty&&(Region.ready md ops listed==l.map Prod.fst)&&MJ m md ops l listed
def MJ (m:Bool) (md:Region.Mode) (ops:Array Oper):List (Nat×qE)->Array Bool->Bool
 | [],_=>true
 |(i,p)::l,listed=>(ops[i]?).isSome&&Ik m md ops p (listed.setIfInBounds i true)&&MJ m md ops l listed
end
mutual
def sq:qE->Nat->Bool
 | .done,n=>n==0
 | .step _ p,n=>match n with
  |0=>false
  |n+1=>sq p n
 | .fork l,n=>match n with
  |0=>false
  |n+1=>DW l n
def DW:List (Nat×qE)->Nat->Bool
 | [],_=>true
 |(_,p)::l,n=>sq p n&&DW l n
end
def IG (m:Bool) (ops:Array Oper) (p:qE):Bool:=Region.noSelect ops&&sq p ops.size&&Ik m .any ops p (Array.replicate ops.size false)
mutual
def cY (m:Bool) (P:Program) (ops:Array Oper) (Q:Exit->Act->World->Prop) (R:World->World->Prop):qE->Act->World->Prop
 | .done,a,w=>Q .normal a w
 | .step i p,a,w=>
  match ops[i]? with
  |none=>False
  |some o=>
   if Region.wanted o (yielded ops a.tmps) then
    if gD o.op then o.wp P a w (fun a' w'=>(nz m ops i=true\/R w w')/\cY m P ops Q R p a' w') Q
    else ∃v,(∀w',R w w'->(execOp a.eval o).run P w'= .ok (.value v) w')/\cY m P ops Q R p (a.put o.dst v) w
   else cY m P ops Q R p (a.put o.dst undef) w
 | .fork l,a,w=>ji m P ops Q R l a w
def ji (m:Bool) (P:Program) (ops:Array Oper) (Q:Exit->Act->World->Prop) (R:World->World->Prop):List (Nat×qE)->Act->World->Prop
 | [],_,_=>True
 |(i,p)::l,a,w=>
  (match ops[i]? with
  |none=>False
  |some o=>if Region.wanted o (yielded ops a.tmps) then o.wp P a w (fun a' w'=>(nz m ops i=true\/R w w')/\cY m P ops Q R p a' w') Q else cY m P ops Q R p (a.put o.dst undef) w)/\ji m P ops Q R l a w
end
section
variable {m:Bool} {P:Program} {ops:Array Oper} {Q:Exit->Act->World->Prop} {md:Region.Mode} {R:World->World->Prop}
mutual
theorem fM (hrefl:∀w,R w w) (ht:∀x y z,R x y->R y z->R x z) (hs:Region.noSelect ops=true)
  (hQ:∀c a d v w,Q (.panic c) (a.put d v) w->Q (.panic c) a w):∀(p:qE) (n:Nat) (listed:Array Bool) (a:Act) (w:World),
  sq p n=true->kD md ops listed->Ik m md ops p listed=true->cY m P ops Q R p a w->qW m P md ops Q R n listed a w
 | .done,0,listed,a,w,_,_,hB,h=>⟨by simpa [Ik] using hB,by simpa [cY] using h⟩
 | .done,n+1,_,_,_,hz,_,_,_=>by simp [sq] at hz
 | .step _ _,0,_,_,_,hz,_,_,_=>by simp [sq] at hz
 | .fork _,0,_,_,_,hz,_,_,_=>by simp [sq] at hz
 | .step k p,n+1,listed,a,w,hz,hcl,hB,h=>by
  simp only [sq] at hz;cases h0:ops[k]? with
  |none=>simp only [cY,h0] at h
  |some o=>
   simp only [Ik,h0,Xf,Option.getD_some,VN] at hB;obtain ⟨hr,hB'⟩:=hB;simp only [cY,h0] at h;by_cases hloud:gD o.op=true
   .rw [if_pos hloud] at hr;have hr':Region.ready md ops listed=[k]:=(by simpa using hr);refine ⟨fun h=>(by rw [h] at hr';cases hr'),fun i hi=> ?_⟩;rw [hr'] at hi;obtain rfl:=VH.1 hi;unfold wpOp;simp only [h0];split
    .rename_i hw;rw [if_pos hw,if_pos hloud] at h;exact .inl (Oper.wp_mono (fun a' w' h3=>⟨h3.1,fM hrefl ht hs hQ p n _ a' w' hz (hcl.set (by rw [hr'];simp)) hB' h3.2⟩) h)
    .rename_i hw;rw [if_neg hw] at h;exact ⟨.inr (hrefl w),fM hrefl ht hs hQ p n _ _ w hz (hcl.set (by rw [hr'];simp)) hB' h⟩
   .rw [if_neg hloud] at hr;simp only [VN] at hr;obtain ⟨⟨hr1,hf⟩,hwf⟩:=hr;have hy:∃v,eG P ops R o v a w/\cY m P ops Q R p (a.put o.dst v) w:=by
     by_cases hw:Region.wanted o (yielded ops a.tmps)=true
     .rw [if_pos hw,if_neg hloud] at h;obtain ⟨v,h1,h2⟩:=h;exact ⟨v,.inl ⟨hw,h1⟩,h2⟩
     .rw [if_neg hw] at h;exact ⟨undef,.inr ⟨by simpa using hw,rfl⟩,h⟩
    obtain ⟨v,hy,hK⟩:=hy;exact tM hrefl ht h0 (Region.noSelect_spec hs) (fun c a w=>hQ c a _ _ w) n listed a w (Region.free_spec h0 hf) hcl (rY hwf) (by simpa using hr1) hy
     (fM hrefl ht hs hQ p n _ _ w hz (hcl.set (by simpa using hr1)) hB' hK)
 | .fork l,n+1,listed,a,w,hz,hcl,hB,h=>by
  simp only [sq] at hz;simp only [Ik,VN] at hB;simp only [cY] at h;obtain ⟨⟨hne,hr⟩,hB'⟩:=hB;have hr':Region.ready md ops listed=l.map Prod.fst:=(by simpa using hr);have hall:=oW hrefl ht hs hQ l n listed a w hz hcl (fun i hi=>by rw [hr'];exact hi) hB' h;refine ⟨fun h=> ?_,fun i hi=> ?_⟩
  .rw [h] at hr';cases l with
   |nil=>simp at hne
   |cons x l=>simp at hr'
  .rw [hr'] at hi;exact hall i hi
theorem oW (hrefl:∀w,R w w) (ht:∀x y z,R x y->R y z->R x z) (hs:Region.noSelect ops=true)
  (hQ:∀c a d v w,Q (.panic c) (a.put d v) w->Q (.panic c) a w):∀(l:List (Nat×qE)) (n:Nat) (listed:Array Bool) (a:Act) (w:World),
  DW l n=true->kD md ops listed->(∀i∈l.map Prod.fst,i∈Region.ready md ops listed)->MJ m md ops l listed=true->ji m P ops Q R l a w->
   ∀i∈l.map Prod.fst,wpOp P ops Q i (fun a' w'=>(nz m ops i=true\/R w w')/\qW m P md ops Q R n (listed.setIfInBounds i true) a' w') a w
 | [],_,_,_,_,_,_,_,_,_=>fun i hi=>by simp at hi
 |(k,p)::l,n,listed,a,w,hz,hcl,hrd,hB,h=>fun i hi=>by
  simp only [DW,VN] at hz;simp only [MJ,VN] at hB;simp only [ji] at h;rcases Ve.1 hi with he|hi
  .have he:i=k:=he;subst he;cases h0:ops[i]? with
   |none=>simp [h0] at hB
   |some o=>
    have h:=h.1;simp only [h0] at h;unfold wpOp;simp only [h0];split
    .rename_i hw;rw [if_pos hw] at h;exact .inl (Oper.wp_mono (fun a' w' h3=>⟨h3.1,fM hrefl ht hs hQ p n _ a' w' hz.1 (hcl.set (hrd _ skA)) hB.1.2 h3.2⟩) h)
    .rename_i hw;rw [if_neg hw] at h;exact ⟨.inr (hrefl w),fM hrefl ht hs hQ p n _ _ w hz.1 (hcl.set (hrd _ skA)) hB.1.2 h⟩
  .exact oW hrefl ht hs hQ l n listed a w hz.2 hcl (fun i hi=>hrd i (by simp at hi⊢;exact .inr hi)) hB.2 h.2 i hi
end
end
def Old (w w':World):Prop:=Below w.heap.size w w'
theorem Old.refl (w:World):Old w w:=AT _ _
theorem Old.trans (x y z:World) (h1:Old x y) (h2:Old y z):Old x z:=ae h1 h2
section
variable {P:Program} {Q:Exit->Act->World->Prop} {a:Act} {w:World}
theorem aA (order:List Nat) {id:Nat} {l:List Oper} (hm:P.follows .mixedOrders=true) (hB:Lf l.toArray order=true)
  (hQ:∀c a d v w,Q (.panic c) (a.put d v) w->Q (.panic c) a w)
  (h:dj P l.toArray Q Old order a w.drew):(Code.region id l.toArray true).wp P Q a w:=
 lf (R:=Old) order Old.refl Old.trans hm hB hQ h
def gV:List Oper->Nat->Option Oper
 | [],_=>none
 |o::_,0=>some o
 |_::l,n+1=>gV l n
theorem ff:∀(l:List Oper) (i:Nat),gV l i=l.toArray[i]?
 | [],_=>by simp [gV]
 |o::l,0=>by simp [gV]
 |o::l,n+1=>by
  have:=ff l n;simp only [List.getElem?_toArray] at this;simp [gV,this]
variable {l:List Oper} {rest:List Nat} {i:Nat} {o:Oper}
theorem cS {v:Value} (ho:gV l i=some o) (hl:gD o.op=false) (hw:Region.wanted o (yielded l.toArray a.tmps)=true)
  (hy:∀w',Old w w'->(execOp a.eval o).run P w'= .ok (.value v) w') (h:dj P l.toArray Q Old rest (a.put o.dst v) w):dj P l.toArray Q Old (i::rest) a w:=by
 rw [ff] at ho;simp only [dj,ho,hw,hl,if_true];exact ⟨v,hy,h⟩
theorem yq (ho:gV l i=some o) (hw:Region.wanted o (yielded l.toArray a.tmps)=false) (h:dj P l.toArray Q Old rest (a.put o.dst undef) w):dj P l.toArray Q Old (i::rest) a w:=by
 rw [ff] at ho;simp only [dj,ho,hw];exact h
theorem lqA {P:Program} {Q:Exit -> Act -> World -> Prop} {a b:Act} {w:World} {l:List Oper} {rest:List Nat} {i:Nat} {o:Oper} {v:Value} (h:dj P l.toArray Q Old rest b w) (ho:gV l i=some o:=by rfl) (hl:gD o.op=false:=by rfl) (hw:Region.wanted o (yielded l.toArray a.tmps)=true:=by rfl) (hy:∀w',Old w w' -> (execOp a.eval o).run P w'= .ok (.value v) w':=by intro W hW;go_simp;try with_reducible rfl) (hb:a.put o.dst v=b:=by simp only [Act.put,sTA,List.set];exact rfl):dj P l.toArray Q Old (i::rest) a w:=cS ho hl hw hy (hb▸h)
theorem lsA {P:Program} {Q:Exit -> Act -> World -> Prop} {a b:Act} {w:World} {l:List Oper} {rest:List Nat} {i:Nat} {o:Oper} (h:dj P l.toArray Q Old rest b w) (ho:gV l i=some o:=by rfl) (hw:Region.wanted o (yielded l.toArray a.tmps)=false:=by rfl) (hb:a.put o.dst undef=b:=by simp only [Act.put,sTA,List.set];exact rfl):dj P l.toArray Q Old (i::rest) a w:=yq ho hw (hb▸h)
theorem bw (ho:gV l i=some o) (hl:gD o.op=true) (hw:Region.wanted o (yielded l.toArray a.tmps)=true)
  (h:∀K:Act->World->Prop,(∀a' w',Below w.heap.size w w'->dj P l.toArray Q Old rest a' w'->K a' w')->o.wp P a w K Q):dj P l.toArray Q Old (i::rest) a w:=by
 rw [ff] at ho;simp only [dj,ho,hw,hl,if_true];exact h _ (fun a' w' h1 h2=>⟨h1,h2⟩)
theorem bO {ops:Array Oper} (h:Q .normal a w):dj P ops Q Old [] a w:=h
end
def od (B:Nat) (w w':World):Prop:=Below B w w'
structure But (g:Nat) (w w':World):Prop where
 size:w.heap.size<=w'.heap.size
 block:∀b,b<w.heap.size->b≠g->w'.heap[b]? =w.heap[b]?
theorem But.refl {g:Nat} (w:World):But g w w:=⟨Lt _,fun _ _ _=>rfl⟩
theorem But.trans {g:Nat} {x y z:World} (h1:But g x y) (h2:But g y z):But g x z:=⟨At h1.size h2.size,fun b hb hne=>(h2.block b (VF hb h1.size) hne).trans (h1.block b hb hne)⟩
theorem But.of {g:Nat} {w w':World} (h:Below w.heap.size w w'):But g w w':=⟨h.size,fun b hb _=>h.block b hb⟩
theorem But.setRow {g:Nat} (w:World) (cs:Array Value):But g w (w.setRow g cs):=⟨by simp [World.setRow],fun b _ hne=>WN w g b cs hne⟩
theorem But.setCell {g:Nat} (w:World) (i:Nat) (v:Value):But g w (w.setCell ⟨g,i,none⟩ v):=⟨skA,fun b _ hne=>VU w ⟨g,i,none⟩ b v hne⟩
theorem Blk.but {g:Nat} {w w':World} {b:Nat} {cs:Array Value} {t:TypeId} (h:Blk w b cs t) (hb:But g w w') (hne:b≠g):Blk w' b cs t:=(hb.block b h.lt hne).trans h
structure bQ (T:TypeId) (w w':World):Prop where
 size:w.heap.size<=w'.heap.size
 block:∀(b:Nat) (cs:Array Value) (t:TypeId) (fr:Nat×Nat),w.heap[b]? =some (Obj.cells cs t fr)->t≠T->w'.heap[b]? =w.heap[b]?
theorem bQ.refl {T:TypeId} (w:World):bQ T w w:=⟨Lt _,fun _ _ _ _ _ _=>rfl⟩
theorem bQ.trans {T:TypeId} {x y z:World} (h1:bQ T x y) (h2:bQ T y z):bQ T x z:=⟨At h1.size h2.size,fun b cs t fr hb hne=>(h2.block b cs t fr ((h1.block b cs t fr hb hne).trans hb) hne).trans (h1.block b cs t fr hb hne)⟩
theorem bQ.of {T:TypeId} {w w':World} (h:Below w.heap.size w w'):bQ T w w':=⟨h.size,fun b _ _ _ hb _=>h.block b (VK.1 hb).1⟩
theorem bQ.grown {T:TypeId} {w w':World} {B size n c:Nat} {a:Option Addr} {vs:List Value} (h:Own w B T size a n c vs) (hg:w.grownBy w' (Value.slice a n c).ownBlock):bQ T w w':=by
 refine ⟨hg.size,fun b cs t fr hb hne=>hg.block b (VK.1 hb).1 fun e=> ?_⟩;rcases h.2 with ⟨k1,_⟩|⟨g',cap',cur',k1,_,k3,_⟩
 .rw [k1] at e;cases e
 .rw [k1] at e;cases e;rw [hb] at k3;simp only [Vn,Obj.cells.injEq] at k3;exact hne k3.2.1
theorem Blk.keepNot {T:TypeId} {w w':World} {b:Nat} {cs:Array Value} {t:TypeId} (h:Blk w b cs t) (hk:bQ T w w') (hne:t≠T):Blk w' b cs t:=(hk.block b cs t (0,0) h hne).trans h
theorem jZ {P:Program} {Q:Exit->Act->World->Prop} {a:Act} {w:World} (T:TypeId) (p:qE) {id:Nat} {l:List Oper} (hm:P.follows .mixedOrders=true) (hB:IG true l.toArray p=true)
  (hQ:∀c a d v w,Q (.panic c) (a.put d v) w->Q (.panic c) a w)
  (h:cY true P l.toArray Q (bQ T) p a w.drew):(Code.region id l.toArray true).wp P Q a w:=by
 simp only [IG,VN] at hB;exact wp_region_any hm (mP _ _ _ _ (R:=bQ T) (fM (R:=bQ T) (md:= .any) bQ.refl (fun _ _ _ h1 h2=>bQ.trans h1 h2) hB.1.1 hQ p _ _ a w.drew hB.1.2 (kD.none _ _ _) hB.2 h))
section
variable {P:Program} {Q:Exit->Act->World->Prop} {a:Act} {w:World} {R:World->World->Prop}
theorem aj (m:Bool) (R:World->World->Prop) (hrefl:∀w,R w w) (ht:∀x y z,R x y->R y z->R x z) (p:qE) {id:Nat} {l:List Oper} (hm:P.follows .mixedOrders=true) (hB:IG m l.toArray p=true)
  (hQ:∀c a d v w,Q (.panic c) (a.put d v) w->Q (.panic c) a w)
  (h:cY m P l.toArray Q R p a w.drew):(Code.region id l.toArray true).wp P Q a w:=by
 simp only [IG,VN] at hB;exact wp_region_any hm (mP _ _ _ _ (R:=R) (fM (R:=R) (md:= .any) hrefl ht hB.1.1 hQ p _ _ a w.drew hB.1.2 (kD.none _ _ _) hB.2 h))
theorem qG (B:Nat) (p:qE) {id:Nat} {l:List Oper} (hm:P.follows .mixedOrders=true) (hB:IG false l.toArray p=true)
  (hQ:∀c a d v w,Q (.panic c) (a.put d v) w->Q (.panic c) a w)
  (h:cY false P l.toArray Q (od B) p a w.drew):(Code.region id l.toArray true).wp P Q a w:=
 aj false (od B) (fun _=>AT _ _) (fun _ _ _ h1 h2=>Below.trans h1 h2) p hm hB hQ h
theorem cj (g:Nat) (p:qE) {id:Nat} {l:List Oper} (hm:P.follows .mixedOrders=true) (hB:IG false l.toArray p=true)
  (hQ:∀c a d v w,Q (.panic c) (a.put d v) w->Q (.panic c) a w)
  (h:cY false P l.toArray Q (But g) p a w.drew):(Code.region id l.toArray true).wp P Q a w:=
 aj false (But g) But.refl (fun _ _ _ h1 h2=>But.trans h1 h2) p hm hB hQ h
variable {l:List Oper} {p:qE} {i:Nat} {o:Oper}
theorem ci {m:Bool} {v:Value} (ho:gV l i=some o) (hl:gD o.op=false) (hw:Region.wanted o (yielded l.toArray a.tmps)=true)
  (hy:∀w',R w w'->(execOp a.eval o).run P w'= .ok (.value v) w') (h:cY m P l.toArray Q R p (a.put o.dst v) w):cY m P l.toArray Q R (.step i p) a w:=by
 rw [ff] at ho;simp only [cY,ho,hw,hl,if_true];exact ⟨v,hy,h⟩
theorem AR {m:Bool} (ho:gV l i=some o) (hw:Region.wanted o (yielded l.toArray a.tmps)=false) (h:cY m P l.toArray Q R p (a.put o.dst undef) w):cY m P l.toArray Q R (.step i p) a w:=by
 rw [ff] at ho;simp only [cY,ho,hw];exact h
theorem tqA {P:Program} {Q:Exit -> Act -> World -> Prop} {a b:Act} {w:World} {R:World -> World -> Prop} {l:List Oper} {p:qE} {i:Nat} {o:Oper} {m:Bool} {v:Value} (h:cY m P l.toArray Q R p b w) (ho:gV l i=some o:=by rfl) (hl:gD o.op=false:=by rfl) (hw:Region.wanted o (yielded l.toArray a.tmps)=true:=by rfl) (hy:∀w',R w w' -> (execOp a.eval o).run P w'= .ok (.value v) w':=by intro W hW;go_simp;try with_reducible rfl) (hb:a.put o.dst v=b:=by simp only [Act.put,sTA,List.set];exact rfl):cY m P l.toArray Q R (.step i p) a w:=ci ho hl hw hy (hb▸h)
theorem tsA {P:Program} {Q:Exit -> Act -> World -> Prop} {a b:Act} {w:World} {R:World -> World -> Prop} {l:List Oper} {p:qE} {i:Nat} {o:Oper} {m:Bool} (h:cY m P l.toArray Q R p b w) (ho:gV l i=some o:=by rfl) (hw:Region.wanted o (yielded l.toArray a.tmps)=false:=by rfl) (hb:a.put o.dst undef=b:=by simp only [Act.put,sTA,List.set];exact rfl):cY m P l.toArray Q R (.step i p) a w:=AR ho hw (hb▸h)
theorem an {m:Bool} (ho:gV l i=some o) (hl:gD o.op=true) (hw:Region.wanted o (yielded l.toArray a.tmps)=true)
  (h:∀K:Act->World->Prop,(∀a' w',R w w'->cY m P l.toArray Q R p a' w'->K a' w')->o.wp P a w K Q):cY m P l.toArray Q R (.step i p) a w:=by
 rw [ff] at ho;simp only [cY,ho,hw,hl,if_true];exact h _ (fun a' w' h1 h2=>⟨.inr h1,h2⟩)
theorem az (ho:gV l i=some o) (hl:oD o=true) (hw:Region.wanted o (yielded l.toArray a.tmps)=true)
  (h:∀K:Act->World->Prop,(∀a' w',cY true P l.toArray Q R p a' w'->K a' w')->o.wp P a w K Q):cY true P l.toArray Q R (.step i p) a w:=by
 rw [ff] at ho;have hl':gD o.op=true:=by
  unfold oD at hl;split at hl
  .rename_i h';rw [h'];rfl
  .rename_i h';rw [h'];rfl
  .cases hl
 simp only [cY,ho,hw,hl',if_true];exact h _ (fun a' w' h2=>⟨.inl (by simp [nz,vy,ho,hl]),h2⟩)
theorem ap {m:Bool} {ops:Array Oper} (h:Q .normal a w):cY m P ops Q R .done a w:=by simp only [cY];exact h
variable {rest:List (Nat×qE)}
theorem kh {m:Bool} {ops:Array Oper} (h:ji m P ops Q R rest a w):cY m P ops Q R (.fork rest) a w:=by simp only [cY];exact h
theorem lX {m:Bool} {ops:Array Oper}:ji m P ops Q R [] a w:=by simp only [ji]
theorem iS {m:Bool} (ho:gV l i=some o) (hw:Region.wanted o (yielded l.toArray a.tmps)=true)
  (h:∀K:Act->World->Prop,(∀a' w',R w w'->cY m P l.toArray Q R p a' w'->K a' w')->o.wp P a w K Q) (h2:ji m P l.toArray Q R rest a w):ji m P l.toArray Q R ((i,p)::rest) a w:=by
 rw [ff] at ho;simp only [ji,ho,hw,if_true];exact ⟨h _ (fun a' w' h1 h2=>⟨.inr h1,h2⟩),h2⟩
end
end
end Go.Proofs.YtioigihakjlopaaGreat

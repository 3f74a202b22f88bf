import Derived.Test.YtioigihakjlopaaGreatVF23
import Derived.Lib.BufferMore
namespace Go.Proofs.YtioigihakjlopaaGreat
open Go.Proofs.Tryz
set_option linter.unusedVariables false
set_option linter.unusedSimpArgs false
set_option maxHeartbeats 16000000
set_option maxRecDepth 100000
section
open Go.RowKit
theorem ef (m:List UInt8) (g n:Nat) (b:List UInt8):(gI m g n b).length=b.length+32:=by rw [gI,laA,eX,cU]
def SlP (w:World) (m:List UInt8) (g n:Nat) (b:List UInt8) (e:Ending) (w':World):Prop:=
 ∃(a:Option Addr) (c:Nat),e= .returned (.tuple #[.slice a (b.length+32) c,.int .i64 0])/\Own w' w.heap.size 5 1 a (b.length+32) c ((gI m g n b).map bv)/\Below w.heap.size w w'
theorem Bo (B:Nat) (n:Nat) (ba:Option Addr) (bn bc:Nat) (w:World) (hbn:65504<bn) (hbm:bn<=maxLen):
  Calls prog 54 #[.pointer (some ⟨B,0,none⟩),.int .u64 (n:Int),.slice ba bn bc] w fun e w'=>e= .returned (.tuple #[.slice none 0 0,.int .i64 3])/\w=w':=by
 unfold maxLen at hbm;have hz:=fun W=>so (bn:Int) oA oA W;rw [show mX (bn:Int)=0 by rw [mX,if_pos (.inr oA)]] at hz;have HZ:=Hd hz;clear hz;go_enter func54,ntmps54;go_wp2_with fail;refine (HZ.out _).mono ?_;rintro e w' ⟨rfl,rfl⟩;go_wp2_with fail;go_ret2;exact ⟨rfl,rfl⟩
theorem DZ (B:Nat) (m:List UInt8) (g n:Nat) (ba:Option Addr) (bn bc:Nat) (b:List UInt8) (w:World) (hB:fI w B m g) (hb:ah w ba b) (hbl:b.length=bn) (hbn:bn<=65504) (hg:g<18446744073709551616) (hn:n<18446744073709551616):
  Calls prog 54 #[.pointer (some ⟨B,0,none⟩),.int .u64 (n:Int),.slice ba bn bc] w (SlP w m g n b):=by
 have HL:=Hd hbl;obtain ⟨H,hH⟩:=Le w.heap.size;have HH:=Hd hH;have hz:=fun W=>so (bn:Int) oA oA W;rw [show mX (bn:Int)=(bn:Int)+32 by rw [mX,if_neg oA]] at hz;have HZ:=Hd hz;have z1:((bn:Int)+32==0)=false:=soA;clear hbl hH hz;go_enter func54,ntmps54;go_wp2_with fail;refine (HZ.out _).mono ?_;rintro e w' ⟨rfl,rfl⟩;go_upto_region 5 with fail;have hBd:fI w.drew B m g:=hB;refine aA (0::1::2::3::4::5::6::8::7::9::10::11::12::13::14::[]) krA krA cdA ?_
 repeat (first|refine lsA ?_|refine lqA ?_)
 refine cS (v:= .agg (fA 16 (ckB m g))) rfl rfl rfA (fun W hW=>aI 169 dU _ rfl rfl rfl (fI.old hBd hW).cipher (dd _ _)) ?_;simp only [Act.put,sTA,List.set]
 repeat (first|refine lsA ?_|refine lqA ?_)
 refine bw rfl rfl rfA (fun K hK=> ?_);go_wp2_with fail;refine (uF B m g n _ hBd hg hn).mono ?_;unfold Ms;rintro e w2 ⟨rfl,hb2⟩;go_wp2_with fail;refine hK _ _ hb2 ?_;clear hK K;have hw2:Below w.heap.size w w2:=⟨hb2.os,hb2.tape,hb2.output,hb2.size,hb2.block⟩;refine bw rfl rfl rfA (fun K hK=> ?_);go_wp2_with fail;refine (qY (ckB m g) (pO g n) ba bn bc b _ (hb.below hw2) HL.out oA).mono ?_;rintro e w3 ⟨a3,c3,rfl,ho3,hb3⟩;go_wp2_with fail;refine hK _ _ hb3 ?_;clear hK K;have hw3:=ae hw2 hb3;have ho3':=ho3.lower hw2.size;clear hb2 hw2 hb3 ho3
 repeat (first|refine lsA ?_|refine lqA ?_)
 refine bO ?_;obtain ⟨cl,hcl⟩:=Le (stm (ckB m g) (pO g n) b);rw [<-hcl] at ho3';have hcn:cl.length=bn:=(by rw [hcl,eX,HL.out]);have HCN:=Hd hcn;have HCL:=Hd hcl;clear hcn hcl;have hB3:=hB.old hw3;go_wp2_with fail;refine (yo B m g n a3 bn c3 cl _ hB3 ho3'.row HCN.out oA hg hn).mono ?_;unfold Pl;rintro e w4 ⟨rfl,hb4⟩;have ho4:=ho3'.old hb4;have hw4:=ae hw3 hb4;have hs4:=hw4.size;clear ho3' hw3 hB3 hb4;go_upto_region 9 with (refine aa rfl 170 fG (.tmp 10) _ (cells:=dgA (jH m g n cl)) rfl rfl rfl (Blk.new _ _ _) (ax _ _) rfl (du fun _ _=>rfl) ?_);obtain ⟨G,hG⟩:=Le w4.heap.size;have hG0:=Blk.new w4 (vA 32 fun _=> .int .u8 0) 170;have hbb:=ag ((AT w4.heap.size w4).alloc (Lt _) (.cells (vA 32 fun _=> .int .u8 0) 170)) (VR hG.symm) (dgA (jH m g n cl));rw [<-hG] at hG0⊢;refine af (fun W0=>Own W0 w.heap.size 5 1 a3 bn c3 (cl.map bv)/\Blk W0 G (dgA (jH m g n cl)) 170/\Below w.heap.size w W0) ⟨ho4.old hbb,hG0.setRow _,hw4.trans (hbb.mono hs4)⟩ ?_;clear ho4 hw4 hs4 hG0 hbb hG;rintro w5 ⟨ho,hG,hw⟩;have q2:=rR G;have hs5:=hw.size;go_wp2_with (at_builtin;refine al rfl (.tmp 39) (.tmp 40) 22 rfl dK rfl ho rfl (rE hG) (by rw [lmA,cU]) (cO _) mxA oA hs5 ?_);intro a6 c6 w6 ho6 hg6;have hw6:=ho.grown hw (Lt _) hg6 hs5;clear hg6 ho hG hw q2 hs5;go_wp2_with fail;go_ret2;refine ⟨a6,c6,by rw [HL.out];rfl,?_,hw6⟩;have e:(gI m g n b).map bv=cl.map bv++(dgl (jH m g n cl)).map bv:=(by rw [gI,<-HCL.out,VG]);rw [e,HL.out];simpa using ho6
def fl (m:List UInt8) (g n:Nat) (b:List UInt8):List UInt8×Int:=
 if 32<=b.length/\b.length<=65536/\b.drop (b.length-32)=dgl (jH m g n (b.take (b.length-32))) then (stm (ckB m g) (pO g n) (b.take (b.length-32)),0) else ([],60)
def OpQ (w:World) (m:List UInt8) (g n:Nat) (b:List UInt8) (e:Ending) (w':World):Prop:=
 ∃(a:Option Addr) (k c:Nat) (l:List UInt8) (er:Int),e= .returned (.tuple #[.slice a k c,.int .i64 er])/\fl m g n b=(l,er)/\l.length=k/\ah w' a l/\Below w.heap.size w w'/\k<=c
theorem zj (ad:Addr) (n c:Nat) (l:List UInt8) (w:World) (hl:ah w (some ad) l) (hn:l.length=n) (hm:n<=140737488351232):
  Calls prog 48 #[.slice (some ad) n c] w fun e w'=>∃a' c',e= .returned (.slice a' n c')/\Own w' w.heap.size 5 1 a' n c' (l.map bv)/\Below w.heap.size w w':=by
 have HN:=Hd hn;clear hn;have hnil:=fun W=>Go.Lib.run_eql_slice_some_nil (P:=prog) W ad n c underlying22;go_enter func48,ntmps48;have h4:=Own.lit (w:=w) (B:=w.heap.size) (e:=5) #[] [] 0 rfl rfl (Lt _) mxA;have hw4:=(AT w.heap.size w).alloc (Lt _) (.cells #[] 5);go_wp2_with (at_builtin;refine al rfl (.tmp 5) (.tmp 6) 22 rfl dK rfl h4 rfl (hl.alloc _) (by rw [lmA,HN.out];omega) (cO _) mxA oA skA ?_);intro a5 c5 w5 ho5 hg5;have hw5:=h4.grown hw4 (Lt _) hg5 skA;clear hg5 h4 hw4;go_wp2_with fail;go_ret;exact ⟨a5,c5,rfl,by simpa using ho5,hw5⟩
def zE (m:List UInt8) (g n:Nat) (b:List UInt8) (k:Nat):Bool:=(List.range 32).all fun i=>dgb (jH m g n (b.take k)) i==b.getD (k+i) 0
theorem uy (m:List UInt8) (g n:Nat) (b:List UInt8) (k:Nat) (hk:b.length=k+32):zE m g n b k=true↔b.drop k=dgl (jH m g n (b.take k)):=by
 unfold zE;rw [XA];constructor
 .intro h;apply List.ext_getElem
  .rw [ldA,cU];omega
  .intro i h1 h2;rw [cU] at h2;have:=h i (Wk.2 h2);rw [Xj] at this;simp only [List.getElem_drop,dgl,Wz,XV];rw [this,VX,Vx oA];rfl
 .intro h i hi;have hi':=Wk.1 hi;rw [Xj];have e:(b.drop k)[i]? =some (dgb (jH m g n (b.take k)) i):=(by rw [h];simp [dgl,hi']);rw [WD] at e;rw [VX,e];rfl
theorem Bk (B:Nat) (m:List UInt8) (g n:Nat) (ba:Option Addr) (bn bc:Nat) (b:List UInt8) (w:World) (hB:fI w B m g) (hb:ah w ba b) (hbl:b.length=bn) (hbm:bn<=bc) (hg:g<18446744073709551616) (hn:n<18446744073709551616) (hbM:bn<=140737488355328):
  Calls prog 109 #[.pointer (some ⟨B,0,none⟩),.int .u64 (n:Int),.slice ba bn bc] w (OpQ w m g n b):=by
 have HL:=Hd hbl;have hz:=fun x h1 h2 W=>so x h1 h2 W;have HZ:=Hd hz;have hb0:=Hd hb;clear hbl hz;by_cases hr:32<=bn/\bn<=65536
 .obtain ⟨hr1,hr2⟩:=hr;obtain ⟨k,hk⟩:∃k,bn=k+32:=⟨bn-32,oA⟩;have HK:=Hd hk;have e1:(bn:Int)-32=(k:Int):=oA;have hzk:=HZ.out (k:Int) oA oA;rw [show mX (k:Int)=(k:Int)+32 by rw [mX,if_neg oA]] at hzk;have HZK:=Hd hzk;have z1:((k:Int)+32==0)=false:=soA;have hk2:k<=65504:=oA;have hkc:k<=bc:=oA;obtain ⟨gb,ob,rfl,_⟩:=hb.at (by rw [HL.out];omega);have hop:fl m g n b=if zE m g n b k=true then (stm (ckB m g) (pO g n) (b.take k),0) else ([],60):=by
   unfold fl;rw [HL.out,show bn-32=k by omega];by_cases h:zE m g n b k=true
   .rw [if_pos ⟨hr1,hr2,(uy m g n b k (by rw [HL.out];exact hk)).1 h⟩,if_pos h]
   .rw [if_neg (fun h2=>h ((uy m g n b k (by rw [HL.out];exact hk)).2 h2.2.2)),if_neg h]
  have HOP:=Hd hop;clear hop hk hzk;go_enter func109,ntmps109;go_wp2_with fail;refine (HZK.out _).mono ?_;rintro e w' ⟨rfl,rfl⟩;have hbk:ah w (some ⟨gb,ob,none⟩) (b.take k):=by
   have:=aw.take k hb;unfold ah;rw [WE];exact this
  have hbkl:(b.take k).length=k:=(by rw [ltA,HL.out];have:=HK.out;omega);go_wp2_with fail;refine (zj ⟨gb,ob,none⟩ k bc (b.take k) _ hbk hbkl oA).mono ?_;rintro e w2 ⟨a2,c2,rfl,ho2,hb2⟩;obtain ⟨cl,hcl⟩:=Le (b.take k);rw [<-hcl] at ho2 hbkl;have HCL:=Hd hcl;have HCN:=Hd hbkl;have hB2:=hB.old hb2;have hbr2:=hb.below hb2;clear hcl hbk hbkl hB;go_upto_region 7 with fail;have hlt:=hB2.lt;have hBd:fI w2.drew B m g:=hB2;have e3:IntKind.i64.wrap (k:Int)=(k:Int):=VD _ oA;have e4:(0:Int)<=(k:Int):=oA;have e5:(k:Int)<=(bn:Int):=oA;have e6:bn-k=32:=(by have:=HK.out;omega);have e7:¬bc=k:=(by have:=HK.out;omega);have ar:∀p c W,(Instr.arrayAt 170 (.slice (some p) 32 c)).run prog W= .ok (.pointer (some p)) W:=fun p c W=>by
   simp [Instr.arrayAt,Vw underlying170]
  have hlast:∀W,Old w2.drew W->∀i (hi:i<(vL 32 fun i=>bv (b.getD (k+i) 0)).length),W.cell? ⟨gb,ob+k+i,none⟩=some (vL 32 fun i=>bv (b.getD (k+i) 0))[i]:=fun W hW i hi=>by
   rw [cM] at hi;obtain ⟨b',o',e,hc⟩:=ah.cellAt (hbr2.drew.below hW) (k+i) (by rw [HL.out];have:=HK.out;omega);cases e;rw [WP,hc];simp [vL,bv]
  have HLA:=Hd hlast;clear hlast e1;refine aA (0::1::2::4::5::6::7::8::3::9::[]) krA krA cdA ?_
  repeat (first|refine lsA ?_|refine lqA ?_)
  refine cS (v:= .agg (vA 32 fun i=>bv (b.getD (k+i) 0))) rfl rfl rfA (fun W hW=>aI 170 fG _ rfl rfl rfl (HLA.out W hW) (cM _ _)) ?_;simp only [Act.put,sTA,List.set];refine bw rfl rfl rfA (fun K hK=> ?_);go_wp2_with fail;refine (yo B m g n a2 k c2 cl _ hBd (ho2.drew.row) HCN.out oA hg hn).mono ?_;unfold Pl;rintro e w3 ⟨rfl,hb3⟩;go_wp2_with fail;refine hK _ _ hb3 ?_;clear hK K;have hw3:Below w2.heap.size w2 w3:=⟨hb3.os,hb3.tape,hb3.output,hb3.size,hb3.block⟩;obtain ⟨E,hE⟩:=Le (zE m g n b k);have hE2:((List.range 32).all fun i=>dgb (jH m g n cl) i==b[k+i]?.getD 0)=E:=(by rw [hE,HCL.out];unfold zE;simp only [VX]);have HE:=Hd hE;have HE2:=Hd hE2;clear hE hE2;refine cS (v:= .bool (!E)) rfl rfl rfA (fun W hW=>tp .neq 170 _ _ rfl rfl rfl krA (by rw [run_neq_struct,dgA,qK 9998 170 5 32 underlying170 underlying5 (et jk),HE2.out];rfl)) ?_;simp only [Act.put,sTA,List.set];refine bO ?_;have hB3:=hB2.old hw3;have ho3:=ho2.old hw3;have hw03:=ae hb2 hw3;clear hb3 hw3 hBd hB2 ho2 hbr2 hb2 e3 e4 e5 e6 e7 ar;cases E with
  |false=>
   have hop:=HOP.out;rw [<-HE.out,if_neg skA] at hop;have HO:=Hd hop;clear hop;go_wp2_with fail;go_ret2;exact ⟨none,0,0,[],60,rfl,HO.out,rfl,aw.nil _ _,hw03,Lt _⟩
  |true=>
   have hop:=HOP.out;rw [<-HE.out,if_pos rfl] at hop;have HO:=Hd hop;clear hop;go_upto_region 9 with fail;have hBd:fI w3.drew B m g:=hB3;refine aA (0::1::2::3::4::5::6::8::7::9::10::11::12::13::[]) krA krA cdA ?_
   repeat (first|refine lsA ?_|refine lqA ?_)
   refine cS (v:= .agg (fA 16 (ckB m g))) rfl rfl rfA (fun W hW=>aI 169 dU _ rfl rfl rfl (fI.old hBd hW).cipher (dd _ _)) ?_;simp only [Act.put,sTA,List.set]
   repeat (first|refine lsA ?_|refine lqA ?_)
   refine bw rfl rfl rfA (fun K hK=> ?_);go_wp2_with fail;refine (uF B m g n _ hBd hg hn).mono ?_;unfold Ms;rintro e w4 ⟨rfl,hb4⟩;go_wp2_with fail;refine hK _ _ hb4 ?_;clear hK K;have hw4:Below w3.heap.size w3 w4:=⟨hb4.os,hb4.tape,hb4.output,hb4.size,hb4.block⟩;refine bw rfl rfl rfA (fun K hK=> ?_);go_wp2_with fail;refine (qY (ckB m g) (pO g n) a2 k c2 cl _ (ho3.old hw4).row HCN.out oA).mono ?_;rintro e w5 ⟨a5,c5,rfl,ho5,hb5⟩;go_wp2_with fail;refine hK _ _ hb5 ?_;clear hK K
   repeat (first|refine lsA ?_|refine lqA ?_)
   refine bO ?_;have hw05:=ae hw03 (ae hw4 hb5);go_wp2_with fail;go_ret2;exact ⟨a5,k,c5,_,0,rfl,HO.out,by rw [eX,<-HCL.out,HCN.out],by rw [<-HCL.out];exact ho5.row,hw05,ho5.le⟩
 .have hop:fl m g n b=([],60):=by
   unfold fl;rw [HL.out,if_neg (fun h=>hr ⟨h.1,h.2.1⟩)]
  have hzk:=HZ.out ((bn:Int)-32) oA oA;rw [show mX ((bn:Int)-32)=0 by rw [mX,if_pos oA]] at hzk;have HZK:=Hd hzk;have HOP:=Hd hop;clear hzk hop;go_enter func109,ntmps109;go_wp2_with fail;refine (HZK.out _).mono ?_;rintro e w' ⟨rfl,rfl⟩;go_wp2_with fail;go_ret2;exact ⟨none,0,0,[],60,rfl,HOP.out,rfl,aw.nil _ _,AT _ _,Lt _⟩
end
section
open Go.RowKit Go.Maps
theorem jL {w:World} {ops:Array Oper} {rest:List Oper} {o:Oper} {a:Act} {Q:Exit->Act->World->Prop} {P:Program} {k e:TypeId} {R:Value->Option (DU×List MemPlace)} {M:Nat} {l:List (Lit×DU)} (hg:o.guard=none) (m:Operand) (t:TypeId) (hop:o.op=Op.range t m) (K:Keyed P k) (ht:P.underlying t=some (.map k e))
  (hm:a.eval m= .map (some M)) (h:iP w P k R M l)
  (hK:∀w',vw w' P k R M w.heap.size l l->w.grownBy w' none->w'.heap.size=w.heap.size+1->wpList P ops Q rest (a.put o.dst (.pointer (some ⟨w.heap.size,0,none⟩))) w'):
  wpList P ops Q (o::rest) a w:=by
 refine XO hg fun K' hK'=> ?_;obtain ⟨w',hrun,r1,r2,r3⟩:=h.range K ht;unfold Oper.wp;simp [execOp,hop,hm,hrun,Result.andThen];exact hK' _ _ (hK w' r1 r2 r3)
def nM (plan:eA) (f:bJ):bJ:={f with b:=f.b.take (f.sure+ip plan f.p),sure:=f.sure+ip plan f.p}
theorem Fw (plan:eA) (f:bJ):(nM plan f).p=im plan f.p:=rfl
def kY (fs ys:List bJ) (plan:eA):List bJ:=fs.map fun f=>if ys.any (fun g=>decide (g.nm=f.nm)) then f else nM plan f
theorem Cy (fs:List bJ) (plan:eA):kY fs fs plan=fs:=by
 unfold kY;rw [WS (g:=id),List.map_id];intro f hf;rw [if_pos (Vp.2 ⟨f,hf,skA⟩)];rfl
theorem zW (fs:List bJ) (plan:eA):kY fs [] plan=fs.map (nM plan):=by
 unfold kY;refine WS fun f hf=> ?_;rw [if_neg skA]
theorem zV (fs ys:List bJ) (plan:eA) (hn:(fs.map (·.nm)).Nodup) (hs:∀y∈ys,y∈fs) {f:bJ} (hf:f∈ys):kY fs (ys.filter fun g=>decide (g.nm≠f.nm)) plan=nS (kY fs ys plan) f.nm (nM plan):=by
 unfold kY nS;rw [WB];refine WS fun g hg=> ?_;simp only [Function.comp];by_cases e:g.nm=f.nm
 .rw [if_neg (by
   rw [Vp];rintro ⟨x,hx,he⟩;have h1:=(Vt.1 hx).2;simp only [Xq] at h1 he;exact h1 (he.trans e)),if_pos (show (ys.any fun g_1=>decide (g_1.nm=g.nm))=true from Vp.2 ⟨f,hf,by simp [e]⟩),if_pos e]
 .have e1:((ys.filter fun g=>decide (g.nm≠f.nm)).any fun x=>decide (x.nm=g.nm))=ys.any fun x=>decide (x.nm=g.nm):=by
   rw [Wj,Vp,Vp];constructor
   .rintro ⟨x,hx,he⟩;exact ⟨x,(Vt.1 hx).1,he⟩
   .rintro ⟨x,hx,he⟩;refine ⟨x,Vt.2 ⟨hx,?_⟩,he⟩;simp only [Xq] at he⊢;rw [he];exact e
  rw [e1];by_cases e2:(ys.any fun x=>decide (x.nm=g.nm))=true
  .rw [if_pos e2,if_neg e]
  .rw [if_neg e2,if_neg (show ¬(nM plan g).nm=f.nm from e)]
theorem uT {fs ys:List bJ} {plan:eA} {x:bJ} (h:x∈kY fs ys plan):∃f∈fs,x.nm=f.nm/\x.blk=f.blk/\x.a=f.a/\x.c=f.c:=by
 obtain ⟨f,hf,rfl⟩:=VY.1 h;refine ⟨f,hf,?_⟩;split<;>exact ⟨rfl,rfl,rfl,rfl⟩
theorem Cp {plan:eA} {f:dx} (h:∀x∈plan,x.1≠f.name):ip plan f=0:=by
 unfold ip;rw [if_neg]
 .rfl
 .rw [Vp];rintro ⟨x,hx,e⟩;exact h x hx (Xz e)
theorem Co {plan:eA} {f:dx} {i:Nat} (hi:i<plan.length) (h1:plan[i].1=f.name) (h2:∀j (hj:j<plan.length),j<i->plan[j].1≠f.name):ip plan f=(min (max plan[i].2 0) ((f.b.length:Int)-f.sure)).toNat:=by
 have hf:(plan.find? fun x=>decide (x.1=f.name))=some plan[i]:=by
  rw [List.find?_eq_some_iff_getElem];exact ⟨by simp [h1],i,hi,rfl,fun j hj=>by simpa using h2 j oA hj⟩
 unfold ip qQ;rw [if_pos (Vp.2 ⟨plan[i],VE hi,by simp [h1]⟩),hf];rfl
structure FN (w:World) (B:Nat) (r:aF) (plan:eA) (pa:Option Addr) (it:Nat) (ys:List bJ) (wr:World):Prop where
 sub:∀y∈ys,y∈r.fs
 ran:vw wr prog 9 Rp r.m it (r.fs.map fT) (ys.map fT)
 disk:aG wr B {r with fs:=kY r.fs ys plan}
 turn:aJ (eM r) w wr
 plan:aw wr pa (plan.flatMap eu)
 it:w.heap.size<=it
theorem ve (w:World) (B:Nat) (r:aF) (pa:Option Addr) (pn pc:Nat) (plan:eA) (h:aG w B r) (hB:B<=w.heap.size) (hp:aw w pa (plan.flatMap eu)) (hpn:plan.length=pn) (hpm:pn<=maxLen)
  (hpf:∀ad,pa=some ad->plan≠ []->∀f∈r.fs,f.blk≠ad.block) (hpo:∀ad,pa=some ad->plan≠ []->ad.block<w.heap.size):
  Calls prog 24 #[.pointer (some ⟨r.d,0,none⟩),.slice pa pn pc] w fun e w'=>∃r',e= .returned (.int .i64 (dE r.p plan).2)/\r'.p=(dE r.p plan).1/\ct B w r w' r':=by
 have HP:=Hd hpn;clear hpn;have hb:=h.blk.rule;have hfr:=h.blk.free;unfold jf at hb;have hmf:∀(fn:Fn) (first cap:Array Value) (w:World),(Instr.makeFunc fn first cap).run prog w= .ok (.func fn first cap) w:=fun _ _ _ _=>rfl;cases hdn:r.down with
 |true=>
  rw [hdn] at hb;go_enter func24,ntmps24;go_wp2_with fail;go_ret;refine ⟨r,?_,?_,ct.refl h⟩
  .simp [dE,aF.p,hdn]
  .simp [dE,aF.p,hdn]
 |false=>
  rw [hdn] at hb;go_enter func24,ntmps24;go_wp2_with (at_range;refine jL rfl _ _ rfl IM underlying83 rfl h.map ?_;intro w0 hg0 hgr0 hsz0);go_frame;go_loopw [22] (fun _ wr=>∃ys,FN w B r plan pa w.heap.size ys wr) (fun _ wr=>wr.rangeLeft r.m w.heap.size)
  case atStart=>
   have hb0:Below w.heap.size w w0:=⟨hgr0.os,hgr0.tape,hgr0.output,oA,fun k hk=>hgr0.block k hk skA⟩;refine ⟨r.fs,fun _ hy=>hy,hg0,?_,aJ.of_below hb0,hp.below hb0,Lt _⟩;rw [Cy];exact h.old hb0
  case round=>
   obtain ⟨ys,H⟩:=hrel;clear hb hfr;go_wp2_with (at_next;refine jM rfl _ rfl rfl H.ran ?_ ?_)
   .intro h0;subst h0;have hb:=H.disk.blk.rule;have hfr:=H.disk.blk.free;unfold jf at hb;dsimp only at hb hfr;rw [hdn] at hb;go_wp2_with fail;go_ret;have hblk:Blk ((wr.setCell ⟨r.d,1,none⟩ (.bool true)).setCell ⟨r.d,2,none⟩ (.bool false)) r.d (jf {r with fs:=kY r.fs [] plan,down:=true,armed:=false}) 85:=(H.disk.blk.set 1 _).set 2 _;refine ⟨{r with fs:=kY r.fs [] plan,down:=true,armed:=false},?_,?_,?_,?_,?_,rfl⟩
    .simp [dE,aF.p,hdn]
    .simp only [dE,aF.p,hdn,lq,zW];simp [Fw]
    .exact (H.turn.setCell (.inl (.inl rfl)) _).setCell (.inl (.inl rfl)) _
    .exact H.disk.head _ rfl rfl rfl rfl rfl rfl h.ok.left hblk fun x hx=>by rw [VU _ _ _ _ hx,VU _ _ _ _ hx]
    .rintro x (hx|hx|⟨f,hf,hx⟩|hx)
     .exact .inl (.inl hx)
     .exact .inl (.inr (.inl hx))
     .obtain ⟨g,hg,_,e2,e3,e4⟩:=uT hf;rw [e2,e3,e4] at hx;exact .inl (.inr (.inr (.inl ⟨g,hg,hx⟩)))
     .exact .inl (.inr (.inr (.inr hx)))
   .intro f hf w1 hgr0 hlt1 hgb1 hsz1 hen;have HG:=Hd hgr0;clear hgr0;have hfr:=H.sub f hf;have hfm:f∈kY r.fs ys plan:=VY.2 ⟨f,hfr,by rw [if_pos (Vp.2 ⟨f,hf,skA⟩)]⟩;have hfa:=H.disk.files f hfm;have hfl:f.blk<w.heap.size:=(h.files f hfr).blk.lt;have hit:=H.it;have hne:f.blk≠w.heap.size:=oA;have hok:=H.disk.ok.sure f.p (VY.2 ⟨f,hfm,rfl⟩);have hokz:=H.disk.ok.size f.p (VY.2 ⟨f,hfm,rfl⟩);have hfB1:Blk w1 f.blk #[.slice f.a f.b.length f.c,.int .i64 (f.sure:Int)] 112:=(hgb1.block _ hfa.blk.lt (by simp [hne])).trans hfa.blk;have hp1:aw w1 pa (plan.flatMap eu):=by
     by_cases hpn:plan=[]
     .subst hpn;exact aw.nil _ _
     .exact H.plan.keepAt fun x hx=>hgb1.block _ (by have:=hpo x hx hpn;have:=H.turn.size;omega) (by have:=hpo x hx hpn;simp;omega)
    go_wp2_with fail;have hBx:Blk (w1.alloc (.cells #[.string f.nm] 9)) wr.heap.size #[.string f.nm] 9:=(by rw [<-hsz1];exact Blk.new _ _ _);have hb12:Below w1.heap.size w1 (w1.alloc (.cells #[.string f.nm] 9)):=(AT _ _).alloc (Lt _) _;refine (Ct pa pn pc plan wr.heap.size f.nm _ (hBx.cell rfl) (hp1.below hb12) HP.out hpm).mono ?_;rintro e w2 ⟨k,rfl,hb2,hcase⟩;have hb12:Below w1.heap.size w1 w2:=ae hb12 hb2;have hfB2:=hfB1.old hb12;have hp2:=hp1.below hb12;obtain ⟨K,hK⟩:=Le (ip plan f.p);have hKle:f.sure+K<=f.b.length:=(by rw [hK];exact my plan f.p hok);have hfz:f.b.length<=1048576:=hokz;have hw1:IntKind.i64.wrap ((f.sure:Int)+(K:Int))=((f.sure+K:Nat):Int):=(by rw [VZ];omega);have HK:=Hd hK;have HC:=Hd hcase;clear hK hcase;go_upto_if 31 with fail;go_cut [7] (fun v7 wx=>v7= .int .i64 (K:Int)/\Below w2.heap.size w2 wx)
    case first=>
     have hfB:=hfB2.rule;rcases HC.out with ⟨rfl,hno⟩|⟨i,hi,rfl,hi1,hi2⟩
     .go_wp2_with fail;go_meet
      case rel=>exact ⟨by rw [HK.out,Cp hno];rfl,AT _ _⟩
     .obtain ⟨b,o,rfl,hbl,hc⟩:=hp2.elem (g:=eu) (sz:=2) (fun _=>rfl) oA i hi;have hc1:=hc 1 (show 1<2 by omega);have hi1':plan[i].1=f.p.name:=hi1;have hKv:=Co (f:=f.p) hi hi1' hi2;rw [<-HK.out] at hKv;generalize plan[i]=x at hc1 hKv;have hc1':w2.cell? ⟨b,o+i*2+1,none⟩=some (.int .i64 x.2):=hc1;have hin:i<pn:=(by rw [<-HP.out];exact hi);have HKV:=Hd hKv;have HI1:=Hd hi1;clear hc hc1 hKv hi1 hi1' hi2;have L1:∀W,Old w2.drew W->W.cell? ⟨b,o+i*2+1,none⟩=some (.int .i64 x.2):=fun W hW=>(by rw [(hW:Below w2.heap.size w2.drew W).cell (show b<w2.heap.size from hbl)];exact hc1');have L2:∀W,Old w2.drew W->W.cell? ⟨f.blk,0,none⟩=some (.slice f.a f.b.length f.c):=fun W hW=>(by rw [(hW:Below w2.heap.size w2.drew W).cell hfB2.lt];exact hfB 0);have L3:∀W,Old w2.drew W->W.cell? ⟨f.blk,1,none⟩=some (.int .i64 (f.sure:Int)):=fun W hW=>(by rw [(hW:Below w2.heap.size w2.drew W).cell hfB2.lt];exact hfB 1);clear hfB hc1';have e1:IntKind.i64.wrap ((f.b.length:Int)-(f.sure:Int))=(f.b.length:Int)-f.sure:=by
       have hok':f.sure<=f.b.length:=hok;rw [VZ];omega
      go_wp2_with fail;refine aA (0::1::2::3::4::5::6::7::8::9::10::11::12::13::14::15::16::17::[]) krA krA cdA ?_
      repeat (first|refine lsA ?_|refine lqA ?_)
      refine bO ?_;go_wp2_with fail
      all_goals
       go_meet
       case rel=>
        refine ⟨?_,(AT _ _).drew⟩
        have e2:K=(min (max x.2 0) ((f.b.length:Int)-f.sure)).toNat:=HKV.out
        have hok':f.sure<=f.b.length:=hok
        congr 1
        omega
    case rest=>
     obtain ⟨rfl,hbc⟩:=hcut;have hfBc:=hfB2.old hbc;have hfB:=hfBc.rule;have hfr2:=hfBc.free;have hB3:=hfBc.set 1 (.int .i64 ((f.sure:Int)+(K:Int)));have hfr3:=hB3.free;have hKI:(f.sure:Int)+(K:Int)<=(f.b.length:Int):=oA;have hKn:0<=(f.sure:Int)+(K:Int):=oA;have hKt:((f.sure:Int)+(K:Int)).toNat=f.sure+K:=oA;have hKc:(f.sure:Int)+(K:Int)<=(f.c:Int):=(by have:=hfa.row.le;omega);have L2:∀W,Old (wc.setCell ⟨f.blk,1,none⟩ (.int .i64 ((f.sure:Int)+(K:Int)))).drew W->W.cell? ⟨f.blk,0,none⟩=some (.slice f.a f.b.length f.c):=fun W hW=>(by rw [(hW:Below _ _ W).cell hB3.lt];exact hB3.rule 0);have L3:∀W,Old (wc.setCell ⟨f.blk,1,none⟩ (.int .i64 ((f.sure:Int)+(K:Int)))).drew W->W.cell? ⟨f.blk,1,none⟩=some (.int .i64 ((f.sure:Int)+(K:Int))):=fun W hW=>(by rw [(hW:Below _ _ W).cell hB3.lt];exact hB3.rule 1);go_wp2_with fail;clear hfB hfr2;refine aj true Old Old.refl Old.trans (.step 0 (.step 1 (.step 2 (.step 3 (.step 4 (.step 5 (.step 6 (.step 7 (.step 8 (.step 9 (.step 10 (.step 11 (.step 12 .done))))))))))))) krA krA cdA ?_
     repeat (first|refine tsA ?_|refine tqA ?_)
     have c3:=hB3.rule;refine az rfl rfl rfA (fun K hK=> ?_);go_wp2_with fail;refine ap ?_;go_wp2_with fail;obtain ⟨W5,hW5⟩:=Le (((wc.setCell ⟨f.blk,1,none⟩ (.int .i64 ((f.sure:Int)+(K:Int)))).setCell ⟨f.blk,0,none⟩ (.slice f.a (f.sure+K) f.c)).drew);have hB5:Blk W5 f.blk #[.slice f.a (f.sure+K) f.c,.int .i64 ((f.sure:Int)+(K:Int))] 112:=(by rw [hW5];exact (hfBc.set 1 _).set 0 _);have hb1c:Below w1.heap.size w1 wc:=ae hb12 hbc;have hk5:∀x,x≠f.blk->x<w1.heap.size->W5.heap[x]? =w1.heap[x]? :=by
      intro x hx hl;rw [hW5];show ((wc.setCell _ _).setCell _ _).heap[x]? =_;rw [VU _ _ _ _ hx,VU _ _ _ _ hx];exact hb1c.block x hl
     have hT5:aJ (eM r) w W5:=by
      rw [hW5];exact ((((H.turn.trans (aJ.of_grown (F:=fun x=>x=w.heap.size) hgb1 (fun k e=>by cases e;rfl)) (fun k hk=> .inr oA)).trans (aJ.of_below (F:=eM r) hb1c) (fun _ hk=> .inl hk)).setCell (.inl (.inr (.inr (.inl ⟨f,hfr,.inl rfl⟩)))) _).setCell (.inl (.inr (.inr (.inl ⟨f,hfr,.inl rfl⟩)))) _).drew
     rw [<-hW5];clear hW5 c3 L2 L3 hB3 hfr3 hfBc hfB2 hfB1 hp2;have hszr:=H.turn.size;have hkr:∀x,x≠f.blk->x<w.heap.size->W5.heap[x]? =wr.heap[x]? :=fun x h1 h2=>(hk5 x h1 oA).trans (hgb1.block x oA soA);have hgr1:=HG.out;have hmne:r.m≠f.blk:=Vf (H.disk.ne_map hfa.blk);have hml:=h.map.lt;have hsame:∀g∈kY r.fs ys plan,g.nm=f.nm->g=f:=fun g hg e=>H.disk.same hg hfm e;refine ⟨⟨ys.filter fun g=>decide (g.nm≠f.nm),fun y hy=>H.sub y (Vt.1 hy).1,(by simpa only [ne_eq,decide_not] using hgr1.keep (hk5 _ hmne (show r.m<w1.heap.size by omega)) (hk5 _ (Vf hne) hgr1.lt)),?_,hT5,?_,Lt _⟩,?_⟩
     .rw [zV _ _ _ h.names H.sub hf];refine H.disk.upd f.nm (nM plan) (fun _ _=>⟨rfl,rfl⟩) (hkr _ (Vf (H.disk.ne_file hfm)) h.blk.lt) (hkr _ hmne hml) (fun x hx=>hkr _ (H.disk.ne_plan hx hfa.blk dcA) (h.plan.block_lt hx).2.1) ?_ ?_ ?_ ?_
      .intro g hg hgn;obtain ⟨g0,hg0,e1,e2,e3,e4⟩:=uT hg;refine ⟨hkr _ (Vf (H.disk.apart' hfm hg (Vf hgn)).1) (by rw [e2];exact (h.files g0 hg0).blk.lt),fun x hx=>hkr _ (H.disk.ne_row hg hx hfa.blk dcA) ?_⟩;rw [e3,e4] at hx;exact ((h.files g0 hg0).row.lt hx).2.1
      .intro g hg hgn;obtain rfl:=hsame g hg hgn;have hlen:(g.b.take (g.sure+ip plan g.p)).length=g.sure+K:=(by rw [<-HK.out,ltA];omega);refine ⟨?_,hfa.ge,?_⟩
       .show Blk W5 g.blk #[.slice g.a (g.b.take (g.sure+ip plan g.p)).length g.c,.int .i64 ((g.sure+ip plan g.p:Nat):Int)] _;rw [hlen,<-HK.out,Int.natCast_add];exact hB5
       .show Mid W5 B 5 g.a (g.b.take (g.sure+ip plan g.p)).length g.c ((g.b.take (g.sure+ip plan g.p)).map bv);rw [hlen,<-HK.out,WE];exact (hfa.row.take (k:=g.sure+K) hKle).keep fun x hx=>hkr _ (H.disk.ne_row hg hx hfa.blk dcA) ((h.files g hfr).row.lt hx).2.1
      .intro g hg hgn g2 hg2 hgn2 x hx;obtain rfl:=hsame g hg hgn;exact (H.disk.apart' hg hg2 (Vf hgn2)).2 x hx
      .have hp5:aF.p {r with fs:=nS (kY r.fs ys plan) f.nm (nM plan)}=jQ (aF.p {r with fs:=kY r.fs ys plan}) f.nm (im plan):=by
        simp only [aF.p,jQ];rw [ph _ _ _ (im plan) (fun _ _ _=>rfl)]
       show dN (aF.p {r with fs:=nS (kY r.fs ys plan) f.nm (nM plan)});rw [hp5];refine H.disk.ok.upd f.nm (im plan) (fun _ _=>rfl) (fun g hg _=> ?_) (fun g hg _=> ?_)
       .rw [kQ plan g (H.disk.ok.sure g hg)];exact Lt _
       .rw [kQ plan g (H.disk.ok.sure g hg)];exact At (my plan g (H.disk.ok.sure g hg)) (H.disk.ok.size g hg)
     .by_cases hpn:plan=[]
      .subst hpn;exact aw.nil _ _
      .exact hp1.keepAt fun x hx=>hk5 _ (Vf (hpf x hx hpn f hfr)) (by have:=hpo x hx hpn;omega)
     .have e1:=hk5 _ hmne (show r.m<w1.heap.size by omega);have e2:=hk5 _ (Vf hne) hgr1.lt;have e3:W5.rangeLeft r.m w.heap.size=w1.rangeLeft r.m w.heap.size:=(by simp only [World.rangeLeft,e1,e2]);rw [e3];exact hlt1
theorem bQ.grownM {T:TypeId} {w w':World} {B n c:Nat} {a:Option Addr} {vs:List Value} (h:Mid w B T a n c vs) (hg:w.grownBy w' (bE a c)):bQ T w w':=
 ⟨hg.size,fun b cs t fr hb hne=>hg.block b (VK.1 hb).1 (fun e=>by
  obtain ⟨_,_,cur,hcur⟩:=h.lt e.symm;rw [hcur] at hb;cases hb;exact hne rfl)⟩
theorem aG.planRow {w:World} {B:Nat} {r:aF} (h:aG w B r):aw w r.pa (r.plan.flatMap eu)/\(∀ad,r.pa=some ad->∀f∈r.fs,f.blk≠ad.block)/\(∀ad,r.pa=some ad->r.plan≠ []->ad.block<w.heap.size):=
 ⟨h.plan.row,fun ad ha f hf=>Vf (h.ne_plan ha (h.files f hf).blk dcA),fun ad ha _=>(h.plan.block_lt ha).2.1⟩
theorem yy (w:World) (B:Nat) (r:aF) (h:aG w B r) (hB:B<=w.heap.size) (hdn:r.down=false):
  Calls prog 62 #[.pointer (some ⟨r.d,0,none⟩)] w fun e w'=>e= .returned (.int .i64 (dz r.p).2)/\∃r',r'.p=(dz r.p).1/\ct B w r w' r'/\((dz r.p).2=0->r'.fs=r.fs):=by
 have hb:=h.blk.rule;have hfr:=h.blk.free;have hpl:=h.plan.le_max;unfold jf at hb;have hlf:=h.ok.left;cases har:r.armed with
 |false=>
  rw [har] at hb;have HG:=Hd (show dz r.p=(r.p,0) from by simp [dz,aF.p,har]);go_enter func62,ntmps62;go_wp2_with fail;go_ret;exact ⟨by rw [HG.out];rfl,r,by rw [HG.out],ct.refl h,fun _=>rfl⟩
 |true=>
  rw [har] at hb;by_cases hl:0<r.left
  .have HG:=Hd (show dz r.p=({r.p with left:=r.left-1},0) from by simp [dz,aF.p,har,hl]);have hlf':0<=r.left/\r.left<=9223372036854775807:=hlf;have hw1:IntKind.i64.wrap (r.left-1)=r.left-1:=(by rw [VZ];omega);go_enter func62,ntmps62;go_wp2_with fail;go_ret;have hblk:Blk (w.setCell ⟨r.d,3,none⟩ (.int .i64 (r.left-1))) r.d (jf {r with left:=r.left-1}) 85:=by
    have:=h.blk.set 3 (.int .i64 (r.left-1));exact this
   refine ⟨by rw [HG.out];rfl,{r with left:=r.left-1},by rw [HG.out];rfl,⟨?_,?_,fun x hx=> .inl (uU rfl rfl rfl rfl hx),rfl⟩,fun _=>rfl⟩
   .exact (aJ.refl _ _).setCell (.inl (.inl rfl)) _
   .exact h.head _ rfl rfl rfl rfl rfl rfl (by show 0<=r.left-1/\r.left-1<=_;omega) hblk fun x hx=>VU _ _ _ _ hx
  .have HG:=Hd (show dz r.p=(lq r.p r.p.plan,5) from by simp [dz,aF.p,har,hl]);obtain ⟨hp1,hp2,hp3⟩:=h.planRow;go_enter func62,ntmps62;go_wp2_with fail;refine (ve w B r r.pa _ _ r.plan h hB hp1 rfl hpl (fun ad ha _=>hp2 ad ha) hp3).mono ?_;rintro e w1 ⟨r',rfl,hr',hs⟩;go_wp2_with fail;go_ret;have hc:dE r.p r.plan=(lq r.p r.p.plan,0):=(by simp [dE,aF.p,hdn]);exact ⟨by rw [HG.out];rfl,r',by rw [HG.out,hr',hc],hs,fun e=>by rw [HG.out] at e;cases e⟩
theorem Ez (w:World) (B:Nat) (r:aF) (h:aG w B r):
  Calls prog 25 #[.pointer (some ⟨r.d,0,none⟩)] w fun e w'=>e= .returned (.int .i64 (sM r.p).2)/\∃r',r'.p=(sM r.p).1/\ct B w r w' r':=by
 have hb:=h.blk.rule;have hfr:=h.blk.free;unfold jf at hb;cases hdn:r.down with
 |false=>
  rw [hdn] at hb;have HG:=Hd (show sM r.p=(r.p,2) from by simp [sM,aF.p,hdn]);go_enter func25,ntmps25;go_wp2_with fail;go_ret;exact ⟨by rw [HG.out];rfl,r,by rw [HG.out],ct.refl h⟩
 |true=>
  rw [hdn] at hb;have HG:=Hd (show sM r.p=({r.p with down:=false},0) from by simp [sM,aF.p,hdn]);go_enter func25,ntmps25;go_wp2_with fail;go_ret;have hblk:Blk (w.setCell ⟨r.d,1,none⟩ (.bool false)) r.d (jf {r with down:=false}) 85:=h.blk.set 1 (.bool false);refine ⟨by rw [HG.out];rfl,{r with down:=false},by rw [HG.out];rfl,⟨?_,?_,fun x hx=> .inl (uU rfl rfl rfl rfl hx),rfl⟩⟩
  .exact (aJ.refl _ _).setCell (.inl (.inl rfl)) _
  .exact h.head _ rfl rfl rfl rfl rfl rfl h.ok.left hblk fun x hx=>VU _ _ _ _ hx
def newR (w:World):aF:=⟨w.heap.size+1,w.heap.size,[],false,false,0,none,0,[]⟩
theorem Is (w:World):
  Calls prog 10 #[] w fun e w'=>e= .returned (.pointer (some ⟨w.heap.size+1,0,none⟩))/\aG w' w.heap.size (newR w)/\Below w.heap.size w w'/\w'.heap.size=w.heap.size+2:=by
 have hmm:= @run_makeMap prog;go_enter func10,ntmps10;go_wp2_with fail;go_ret;have hB2:Blk ((w.alloc (.map #[] 0)).alloc (.cells #[.map (some w.heap.size),.bool false,.bool false,.int .i64 0,.slice none 0 0] 85)) (w.heap.size+1) (jf (newR w)) 85:=Blk.new2' _ _ _ _;refine ⟨rfl,⟨by show w.heap.size<=w.heap.size+1;omega,Lt _,hB2,?_,fun f hf=>by simp [newR] at hf,List.Pairwise.nil,Own.nil _ _ _ _,?_⟩,((AT _ _).alloc (Lt _) _).alloc skA _,skA⟩
 .exact (iP.made w prog 9 Rp).keep (Vi _ _ _ (by simp [newR]))
 .exact ⟨List.nodup_nil,fun f hf=>by simp [aF.p,newR] at hf,fun f hf=>by simp [aF.p,newR] at hf,fun f hf=>by simp [aF.p,newR] at hf,by simp [aF.p,newR],by simp [aF.p,newR]⟩
theorem Jt:bu prog 22 5 1 1:=bu.mk (z:= .int .u8 0) underlying22 krA rfl oA
theorem oG {w:World} {B:Nat} {r:aF} (h:aG w B r) {f:bJ} (hf:f∈r.fs):eW r.p f.nm=some f.p:=by
 have:=CD h.ok.names (show f.p∈r.p.fs from VY.2 ⟨f,hf,rfl⟩);exact this
theorem oH {r:aF} {nm:bz} (hn:∀f∈r.fs,f.nm≠nm):eW r.p nm=none:=by
 unfold eW;rw [XZ];intro x hx;obtain ⟨f,hf,rfl⟩:=VY.1 hx;exact fun e=>hn f hf (Xz e)
def LX (l:List UInt8) (a2:Option Addr) (c2:Nat) (g:bJ):bJ:={g with a:=a2,c:=c2,b:=g.b++l}
theorem xe {w w2:World} {B:Nat} {r:aF} {f:bJ} (h:aG w B r) (hf:f∈r.fs) {l:List UInt8} {len:Nat} (hlen:l.length=len) (hle:f.b.length+len<=1048576) {a2:Option Addr} {c2:Nat}
  (hm:Mid w2 B 5 a2 (f.b.length+len) c2 (f.b.map bv++l.map bv)) (hg:w.grownBy w2 (bE f.a f.c)) (hrow:bE a2 c2=bE f.a f.c\/∃b,bE a2 c2=some b/\w.heap.size<=b):
  ct B w r (w2.setCell ⟨f.blk,0,none⟩ (.slice a2 (f.b.length+len) c2)) {r with fs:=nS r.fs f.nm (LX l a2 c2)}:=by
 have hfa:=h.files f hf;have hkn:=bQ.grownM hfa.row hg;have hbl2:=hfa.blk.keepNot hkn dcA;have hsame:∀g∈r.fs,g.nm=f.nm->g=f:=fun g hg e=>h.same hg hf e;have hk:∀x,x≠f.blk->x<w.heap.size->bE f.a f.c≠some x->(w2.setCell ⟨f.blk,0,none⟩ (.slice a2 (f.b.length+len) c2)).heap[x]? =w.heap[x]? :=fun x h1 h2 h3=>by
  rw [VU _ _ _ _ h1];exact hg.block x h2 (Vf h3)
 have hff:∀x,bE f.a f.c=some x->eM r x:=fun x hx=> .inr (.inr (.inl ⟨f,hf,.inr hx⟩));have hnr:∀{b:Nat} {cs:Array Value} {t:TypeId},Blk w b cs t->t≠5->bE f.a f.c≠some b:=fun hb ht e=>h.ne_row hf e hb ht rfl;have hnm:bE f.a f.c≠some r.m:=fun e=>by
  obtain ⟨_,_,cur,hcur⟩:=hfa.row.lt e;exact h.ne_map hcur rfl
 refine ⟨(aJ.of_grown hg hff).setCell (.inl (.inr (.inr (.inl ⟨f,hf,.inl rfl⟩)))) _,?_,?_,rfl⟩
 .refine h.upd f.nm (LX l a2 c2) (fun _ _=>⟨rfl,rfl⟩) (hk _ (Vf (h.ne_file hf)) h.blk.lt (hnr h.blk dcA)) (hk _ (Vf (h.ne_map hfa.blk)) h.map.lt hnm) (fun x hx=> ?_) ?_ ?_ ?_ ?_
  .obtain ⟨_,h2,cur,hcur⟩:=h.plan.block_lt hx;exact hk _ (h.ne_plan hx hfa.blk dcA) h2 (hnr hcur dcA)
  .intro g hg1 hgn;obtain ⟨hb,hr⟩:=h.apart' hf hg1 (Vf hgn);refine ⟨hk _ (Vf hb) (h.files g hg1).blk.lt (hnr (h.files g hg1).blk dcA),fun x hx=>hk _ (h.ne_row hg1 hx hfa.blk dcA) ((h.files g hg1).row.lt hx).2.1 (fun e=>hr x e hx)⟩
  .intro g hg1 hgn;obtain rfl:=hsame g hg1 hgn;have hl2:(g.b++l).length=g.b.length+len:=(by rw [laA,hlen]);refine ⟨?_,hfa.ge,?_⟩
   .show Blk _ g.blk #[.slice a2 (g.b++l).length c2,.int .i64 (g.sure:Int)] _;rw [hl2];exact hbl2.set 0 _
   .show Mid _ B 5 a2 (g.b++l).length c2 ((g.b++l).map bv);rw [hl2,VG];exact hm.setCell hbl2 dcA 0 _
  .intro g hg1 hgn g2 hg2 hgn2 x hx;obtain rfl:=hsame g hg1 hgn;rcases hrow with e|⟨b,e,hb⟩
   .exact (h.apart' hf hg2 (Vf hgn2)).2 x (by rw [<-e];exact hx)
   .intro e2;have:=((h.files g2 hg2).row.lt e2).2.1;have e3:bE a2 c2=some x:=hx;rw [e] at e3;cases e3;omega
  .have hp5:aF.p {r with fs:=nS r.fs f.nm (LX l a2 c2)}=jQ r.p f.nm (fun f=>{f with b:=f.b++l}):=by
    simp only [aF.p,jQ];rw [ph _ _ _ (fun f=>{f with b:=f.b++l}) (fun _ _ _=>rfl)]
   show dN (aF.p {r with fs:=nS r.fs f.nm (LX l a2 c2)});rw [hp5];refine h.ok.upd f.nm _ (fun _ _=>rfl) (fun g hg1 _=> ?_) (fun g hg1 hgn=> ?_)
   .have:=h.ok.sure g hg1;show g.sure<=(g.b++l).length;rw [laA];omega
   .obtain ⟨g0,hg0,rfl⟩:=VY.1 hg1;obtain rfl:=hsame g0 hg0 hgn;show (g0.b++l).length<=fh;rw [laA,hlen];exact hle
 .rintro x (hx|hx|⟨g,hg1,hx⟩|hx)
  .exact .inl (.inl hx)
  .exact .inl (.inr (.inl hx))
  .obtain ⟨g0,hg0,⟨e,rfl⟩|⟨e,rfl⟩⟩:=ol hg1
   .obtain rfl:=hsame g0 hg0 e;rcases hx with hx|hx
    .exact .inl (.inr (.inr (.inl ⟨g0,hf,.inl hx⟩)))
    .have hx':bE a2 c2=some x:=hx;rcases hrow with e2|⟨b,e2,hb⟩
     .rw [e2] at hx';exact .inl (hff x hx')
     .rw [e2] at hx';cases hx';exact .inr hb
   .exact .inl (.inr (.inr (.inl ⟨_,hg0,hx⟩)))
  .exact .inl (.inr (.inr (.inr hx)))
def rT (B:Nat) (w:World) (r:aF) (nm:bz) (l:List UInt8) (v:Int) (w':World):Prop:=v=(bt r.p nm l).2/\∃r',r'.p=(bt r.p nm l).1/\ct B w r w' r'
theorem xf (w:World) (B:Nat) (r:aF) (f:bJ) (h:aG w B r) (hB:B<=w.heap.size) (hdn:r.down=false) (hf:f∈r.fs) (bb bd:Nat) (a:Option Addr) (len cap:Nat) (l:List UInt8)
  (hbb:Blk w bb #[.slice a len cap] 22) (hbd:Blk w bd #[.pointer (some ⟨r.d,0,none⟩)] 26) (hl:ah w a l) (hlen:l.length=len) (hcl:len<=maxLen):
  Calls prog 61 #[.pointer (some ⟨f.blk,0,none⟩),.pointer (some ⟨bb,0,none⟩),.pointer (some ⟨bd,0,none⟩)] w fun e w'=>∃v,e= .returned (.int .i64 v)/\rT B w r f.nm l v w':=by
 unfold maxLen at hcl;have HL:=Hd hlen;have HDN:=Hd hdn;clear hlen hdn;have hfa:=h.files f hf;have hsz:f.b.length<=1048576:=h.ok.size f.p (VY.2 ⟨f,hf,rfl⟩);have hfp:=Hd (oG h hf);have e1:IntKind.i64.wrap (1048576-(f.b.length:Int))=1048576-(f.b.length:Int):=(by rw [VZ];omega);have L1:∀W,Old w.drew W->W.cell? ⟨bb,0,none⟩=some (.slice a len cap):=fun W hW=>(by rw [(hW:Below w.heap.size w.drew W).cell hbb.lt];exact hbb.rule 0);have L2:∀W,Old w.drew W->W.cell? ⟨f.blk,0,none⟩=some (.slice f.a f.b.length f.c):=fun W hW=>(by rw [(hW:Below w.heap.size w.drew W).cell hfa.blk.lt];exact hfa.blk.rule 0);by_cases hbig:1048576-f.b.length<len
 .have t0:decide (1048576-(f.b.length:Int)<(len:Int))=true:=soA;go_enter func61,ntmps61;go_wp2_with fail;refine aA (0::1::2::3::4::5::6::7::8::[]) krA krA cdA ?_
  repeat (first|refine lsA ?_|refine lqA ?_)
  refine bO ?_;go_wp2_with fail;go_ret;refine ⟨3,rfl,?_⟩;have e:bt r.p f.nm l=(r.p,3):=by
   unfold bt lH;rw [hfp.out];have:fh-f.p.b.length<l.length:=(by rw [HL.out];exact hbig);simp [aF.p,HDN.out,this]
  unfold rT;rw [e];have hk:=ct.refl h;exact ⟨rfl,r,rfl,⟨hk.turn.drew,h.drew,hk.foot',rfl⟩⟩
 .have t0:decide (1048576-(f.b.length:Int)<(len:Int))=false:=soA;go_enter func61,ntmps61;go_wp2_with fail;refine aA (0::1::2::3::4::5::6::7::8::[]) krA krA cdA ?_
  repeat (first|refine lsA ?_|refine lqA ?_)
  refine bO ?_;clear L1 L2;go_wp2_with fail;have r0:=fun W (hW:bQ 5 w.drew.drew W)=>(hfa.blk.drew.drew.keepNot hW dcA).rule;have r1:=fun W (hW:bQ 5 w.drew.drew W)=>(hbb.drew.drew.keepNot hW dcA).rule;refine jZ 5 (.step 0 (.step 1 (.step 2 (.step 3 (.step 4 (.step 5 (.step 6 (.step 7 (.step 8 (.step 9 .done)))))))))) krA krA cdA ?_
  repeat (first|refine tsA ?_|refine tqA ?_)
  refine an rfl rfl rfA (fun K hK=> ?_);refine jy (.tmp 18) (.tmp 19) 22 rfl Jt rfl hfa.row.drew.drew rfl (aw.drew (aw.drew hl)) (by rw [lmA];exact HL.out) (cO _) mxA oA hB ?_;intro a2 c2 w2 hm2 hg2 hrow2;refine hK _ _ (bQ.grownM hfa.row.drew.drew hg2) ?_;clear hK K r0 r1;have hkn:=bQ.grownM hfa.row.drew.drew hg2;have hbl2:=hfa.blk.drew.drew.keepNot hkn dcA;have hbd2:=hbd.drew.drew.keepNot hkn dcA;have c0:=hbl2.rule;have c1:=hbl2.free
  repeat (first|refine tsA ?_|refine tqA ?_)
  refine az rfl rfl rfA (fun K hK=> ?_);go_wp2_with fail;refine ap ?_;have HS:=Hd (xe h hf HL.out oA hm2 ⟨hg2.os,hg2.tape,hg2.output,hg2.size,hg2.block⟩ hrow2);have hsz3:B<=(w2.setCell ⟨f.blk,0,none⟩ (.slice a2 (f.b.length+len) c2)).heap.size:=At hB HS.out.turn.size;have c2':=(hbd2.other ⟨f.blk,0,none⟩ (.slice a2 (f.b.length+len) c2) (Blk.ne hbd2 hbl2 dcA)).rule;clear c0 c1;go_wp2_with fail;refine (yy _ B _ HS.out.at' hsz3 HDN.out).mono ?_;rintro e w4 ⟨rfl,r',hr',hs,_⟩;go_wp2_with fail;go_ret;refine ⟨_,rfl,?_⟩;have e:bt r.p f.nm l=dz (jQ r.p f.nm (fun f=>{f with b:=f.b++l})):=by
   unfold bt lH;rw [hfp.out];have:¬fh-f.p.b.length<l.length:=(by rw [HL.out];exact hbig);simp [aF.p,HDN.out,this]
  have hp5:aF.p {r with fs:=nS r.fs f.nm (LX l a2 c2)}=jQ r.p f.nm (fun f=>{f with b:=f.b++l}):=by
   simp only [aF.p,jQ];rw [ph _ _ _ (fun f=>{f with b:=f.b++l}) (fun _ _ _=>rfl)]
  unfold rT;rw [e,<-hp5];exact ⟨rfl,r',hr',HS.out.trans hs⟩
end
end Go.Proofs.YtioigihakjlopaaGreat

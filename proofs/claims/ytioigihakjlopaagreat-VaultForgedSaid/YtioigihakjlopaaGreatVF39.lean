import Derived.Test.YtioigihakjlopaaGreatVF37
import Derived.Test.YtioigihakjlopaaGreatVF38
namespace Go.Proofs.YtioigihakjlopaaGreat
open Go.Proofs.Tryz
set_option linter.unusedVariables false
set_option linter.unusedSimpArgs false
set_option maxHeartbeats 16000000
set_option maxRecDepth 100000
section
open Go.RowKit
def fcV (a:Option Addr) (n cap k:Nat) (bad:Bool):Array Value:= #[.slice a n cap,.int .i64 (k:Int),.bool bad]
structure nQ (w:World) (B C:Nat) (a:Option Addr) (cap:Nat) (bs:List UInt8) (k:Nat) (bad:Bool):Prop where
 blk:Blk w C (fcV a bs.length cap k bad) 149
 row:ah w a bs
 low:InB B a bs.length
 ge:B<=C
 le:k<=bs.length
 max:bs.length<=1048576
 capOk:bs.length<=cap
section
variable {w w':World} {B C cap k:Nat} {a:Option Addr} {bs:List UInt8} {bad:Bool}
theorem nQ.keep (h:nQ w B C a cap bs k bad) (hk:w'.heap[C]? =w.heap[C]?) (hb:Below B w w'):nQ w' B C a cap bs k bad:=
 ⟨hk.trans h.blk,aw.low h.row h.low (fun h0=>by rw [Vz h0];rfl) hb,h.low,h.ge,h.le,h.max,h.capOk⟩
theorem nQ.old (h:nQ w B C a cap bs k bad) (hb:Below w.heap.size w w') (hB:B<=w.heap.size):nQ w' B C a cap bs k bad:=h.keep (hb.block _ h.blk.lt) (hb.mono hB)
theorem nQ.setBad (h:nQ w B C a cap bs k bad) (b:Bool):nQ (w.setCell ⟨C,2,none⟩ (.bool b)) B C a cap bs k b:=
 ⟨h.blk.set 2 (.bool b),aw.low h.row h.low (fun h0=>by rw [Vz h0];rfl) ((AT _ _).setCell h.ge _),h.low,h.ge,h.le,h.max,h.capOk⟩
theorem nQ.setAt (h:nQ w B C a cap bs k bad) (j:Nat) (hj:j<=bs.length):nQ (w.setCell ⟨C,1,none⟩ (.int .i64 (j:Int))) B C a cap bs j bad:=
 ⟨h.blk.set 1 (.int .i64 (j:Int)),aw.low h.row h.low (fun h0=>by rw [Vz h0];rfl) ((AT _ _).setCell h.ge _),h.low,h.ge,hj,h.max,h.capOk⟩
end
def FAt (w:World) (B C:Nat) (a:Option Addr) (cap:Nat) (bs:List UInt8) (s:CS):Prop:=∃k,nQ w B C a cap bs k s.bad/\s.b=bs.drop k
def Dz (w:World) (B C:Nat) (a:Option Addr) (cap:Nat) (bs:List UInt8) (s:CS) (e:Ending) (w':World):Prop:=
 e= .returned (.int .i64 (be s).1)/\FAt w' B C a cap bs (be s).2/\aJ (fun x=>x=C) w w'
def MB (w:World) (B C:Nat) (a:Option Addr) (cap:Nat) (bs:List UInt8) (k:Nat) (bad:Bool) (f:Nat) (v i:Value) (wr:World):Prop:=
 ∃t:Nat,t+f=8/\i= .int .i64 (t:Int)/\v= .int .u64 (U64 (rdB ((bs.drop k).take t)))/\nQ wr B C a cap bs k bad/\Below w.heap.size w wr
theorem iJ (w:World) (B C:Nat) (a:Option Addr) (cap:Nat) (bs:List UInt8) (s:CS) (h:FAt w B C a cap bs s) (hB:B<=w.heap.size):
  Calls prog 86 #[.pointer (some ⟨C,0,none⟩)] w (Dz w B C a cap bs s):=by
 obtain ⟨sb,bad⟩:=s;obtain ⟨k,h,hsb⟩:=h;dsimp only at h hsb;subst hsb;have hc:=h.blk.rule;unfold fcV at hc;have hle:=h.le;have hmx:=h.max;have hsub:IntKind.i64.wrap ((bs.length:Int)-(k:Int))=(bs.length:Int)-(k:Int):=(by rw [VZ];omega);have hCl:=h.blk.lt;by_cases hs:bs.length<k+8
 .have d1:decide ((bs.length:Int)-(k:Int)<8)=true:=soA;have e1:dM 8 ⟨bs.drop k,bad⟩=([],⟨bs.drop k,true⟩):=if_pos (by simp only [ldA];omega);have HP:∀w1 w2,nQ w1 B C a cap bs k bad->Below w.heap.size w w1->w2=w1.setCell ⟨C,2,none⟩ (.bool true)->Dz w B C a cap bs ⟨bs.drop k,bad⟩ (.returned (.int .i64 0)) w2:=by
   rintro w1 w2 h1 hb1 rfl;unfold Dz be;rw [e1];exact ⟨rfl,⟨k,h1.setBad true,rfl⟩,(aJ.of_below (F:=fun x=>x=C) hb1).one _⟩
  have HPh:=Hd HP;clear HP e1;go_enter func86,ntmps86;go_wp2_with fail;go_quiet (fail);go_upto_region 2 with (fail);refine af (fun W=>nQ W B C a cap bs k bad/\Below w.heap.size w W) ⟨h.old cL hB,cL⟩ ?_;rintro w1 ⟨h1,hb1⟩;clear hc;have hc:=h1.blk.rule;unfold fcV at hc;have f1:=h1.blk.free;go_wp2_with fail;go_ret;exact HPh.out _ _ h1 hb1 rfl
 .have d1:decide ((bs.length:Int)-(k:Int)<8)=false:=soA;have e1:dM 8 ⟨bs.drop k,bad⟩=((bs.drop k).take 8,⟨bs.drop (k+8),bad⟩):=by
   unfold dM;rw [if_neg (by simp only [ldA];omega)];rw [show (8:Int).toNat=8 from rfl,Wu]
  have HP:∀w1 w2 v,nQ w1 B C a cap bs k bad->Below w.heap.size w w1->w2=w1.setCell ⟨C,1,none⟩ (.int .i64 ((k+8:Nat):Int))->v=(rdB ((bs.drop k).take 8)).toInt->Dz w B C a cap bs ⟨bs.drop k,bad⟩ (.returned (.int .i64 v)) w2:=by
   rintro w1 w2 v h1 hb1 rfl rfl;unfold Dz be;rw [e1];exact ⟨rfl,⟨k+8,h1.setAt (k+8) oA,rfl⟩,(aJ.of_below (F:=fun x=>x=C) hb1).one _⟩
  have HPh:=Hd HP;clear HP e1;go_enter func86,ntmps86;go_wp2_with fail;go_quiet (fail);go_upto_region 3 with (fail);refine af (fun W=>MB w B C a cap bs k bad 8 (.int .u64 0) (.int .i64 0) W) ⟨0,rfl,rfl,by simp [rdB,U64],h.old cL hB,cL⟩ ?_;intro w1 hst;clear hc h;go_wp2_with fail;go_loopg [3,4] 8 (fun f v i wr=>MB w B C a cap bs k bad f v i wr)
  case atStart=>exact hst
  case round=>
   clear hst;obtain ⟨t,hf,rfl,rfl,h,hb⟩:=hrel;have hz:=hb.size;have hc:=h.blk.rule;unfold fcV at hc;by_cases ht:t<8
   .have t0:decide ((t:Int)<8)=true:=soA;have i1:IntKind.i64.wrap ((k:Int)+(t:Int))=(k:Int)+(t:Int):=(by rw [VZ];omega);have i2:(0:Int)<=(k:Int)+(t:Int):=oA;have i3:(k:Int)+(t:Int)<(bs.length:Int):=oA;have i4:((k:Int)+(t:Int)).toNat=k+t:=oA;obtain ⟨b,o,rfl,hcell⟩:=h.row (k+t) (by rw [lmA];omega);rw [Wz] at hcell;unfold bv at hcell;have HT:=Hd (show (bs.drop k).take (t+1)=(bs.drop k).take t++ [bs[k+t]] by
     rw [VW (by rw [ldA];omega),List.getElem_drop])
    generalize bs[k+t]=y at*;generalize hm:rdB ((bs.drop k).take t)=m at*;have HM:=Hd hm;clear hm;have hor:=sL m y;go_wp2_with fail;go_quiet (fail);go_wp2_with fail;go_roundg (gk-1)
    case measure=>omega
    case rel=>
     refine ⟨t+1,oA,gnA,?_,h.old cL (At hB hz),cL⟩;rw [HT.out,oq,HM.out]
     first|done|exact WG _ hor
   .obtain rfl:t=8:=oA;have t0:decide (((8:Nat):Int)<8)=false:=skA;have i1:IntKind.i64.wrap ((k:Int)+8)=((k+8:Nat):Int):=(by rw [VZ];omega);have f1:=h.blk.free;have hcv:=kN (rdB ((bs.drop k).take 8));go_wp2_with fail;go_ret;exact HPh.out _ _ _ h hb rfl rfl
def dF (size:Nat) (s:CS):Nat×CS:=
 if (be s).2.bad=true\/(be s).1<0\/((((be s).2.b.length:Int)).tdiv size<(be s).1) then (0,⟨(be s).2.b,true⟩) else ((be s).1.toNat,(be s).2)
def tH (w:World) (B C:Nat) (a:Option Addr) (cap:Nat) (bs:List UInt8) (size:Nat) (s:CS) (e:Ending) (w':World):Prop:=
 e= .returned (.int .i64 ((dF size s).1:Int))/\FAt w' B C a cap bs (dF size s).2/\aJ (fun x=>x=C) w w'
theorem rD (w:World) (B C:Nat) (a:Option Addr) (cap:Nat) (bs:List UInt8) (size:Nat) (s:CS) (h:FAt w B C a cap bs s) (hB:B<=w.heap.size) (he1:0<size) (he2:size<=100):
  Calls prog 130 #[.pointer (some ⟨C,0,none⟩),.int .i64 (size:Int)] w (tH w B C a cap bs size s):=by
 have cb:=iJ w B C a cap bs s h hB;have HF:=Hd (show dF size s=if (be s).2.bad=true\/(be s).1<0\/((((be s).2.b.length:Int)).tdiv size<(be s).1) then (0,⟨(be s).2.b,true⟩) else ((be s).1.toNat,(be s).2) from rfl);obtain ⟨F,hF⟩:=Le (tH w B C a cap bs size s);rw [<-hF];have HFF:=Hd hF;clear hF h;go_enter func130,ntmps130;go_wp2_with fail;refine cb.mono ?_;clear cb;rintro e w2 ⟨rfl,⟨k,h,hsb⟩,ht⟩;have hw:=jd s;have hn64: -9223372036854775808<=(be s).1/\(be s).1<9223372036854775808:=by
  have h1:=Xh (x:=rdB (dM 8 s).1);have h2:=Xi (x:=rdB (dM 8 s).1);unfold be;simp at h1 h2;simp;omega
 have HP0:∀w1 w3 k1,((be s).2.bad=true\/(be s).1<0\/((((be s).2.b.length:Int)).tdiv size<(be s).1))->nQ w1 B C a cap bs k (be s).2.bad->Below w2.heap.size w2 w1->w3=w1.setCell ⟨C,2,none⟩ (.bool true)->k1=(0:Int)->F (.returned (.int .i64 k1)) w3:=by
  rintro w1 w3 k1 hq h1 hb1 rfl rfl;rw [HFF.out];unfold tH;rw [HF.out,if_pos hq];exact ⟨rfl,⟨k,h1.setBad true,hsb⟩,(ht.trans (aJ.of_below (F:=fun x=>x=C) hb1) fun _ hx=> .inl hx).one _⟩
 have HP1:∀w1 k1,¬((be s).2.bad=true\/(be s).1<0\/((((be s).2.b.length:Int)).tdiv size<(be s).1))->nQ w1 B C a cap bs k (be s).2.bad->Below w2.heap.size w2 w1->k1=(be s).1->F (.returned (.int .i64 k1)) w1:=by
  rintro w1 k1 hq h1 hb1 rfl;rw [HFF.out];unfold tH;rw [HF.out,if_neg hq];exact ⟨by rw [Int.toNat_of_nonneg oA],⟨k,h1,hsb⟩,ht.trans (aJ.of_below (F:=fun x=>x=C) hb1) fun _ hx=> .inl hx⟩
 have HB2:=At hB ht.size;have hlen:(be s).2.b.length=bs.length-k:=(by rw [hsb,ldA]);rw [hlen] at HP0 HP1;have P0:=Hd HP0;have P1:=Hd HP1;clear HP0 HP1 HF HFF hsb hlen ht hw;generalize (be s).1=n at*;generalize (be s).2.bad=bd at*;have hle:=h.le;have hmx:=h.max;have hc:=h.blk.rule;unfold fcV at hc;have hsub:IntKind.i64.wrap ((bs.length:Int)-(k:Int))=(bs.length:Int)-(k:Int):=(by rw [VZ];omega);obtain ⟨z,hz⟩:=Le (((bs.length:Int)-(k:Int)).tdiv size);have hze:(((bs.length-k:Nat):Int)).tdiv size=z:=(by rw [hz];congr 1;omega);rw [hze] at P0 P1;have hz0:0<=z/\z<=1048576:=by
  rw [hz,WH oA];exact ⟨Int.ediv_nonneg oA oA,Int.le_trans (Int.ediv_le_self _ oA) oA⟩
 have hzw:IntKind.i64.wrap (((bs.length:Int)-(k:Int)).tdiv size)=z:=(by rw [<-hz,VZ];omega);have hne:((size:Int)==0)=false:=soA;have hne2:(size:Int)≠0:=oA;clear hz hze;cases bd with
 |true=>
  go_wp2_with fail;go_quiet (fail);go_upto_region 3 with (fail);refine af (fun W=>nQ W B C a cap bs k true/\Below w2.heap.size w2 W) ⟨h.old cL HB2,cL⟩ ?_;rintro w1 ⟨h1,hb1⟩;clear hc;have hc:=h1.blk.rule;unfold fcV at hc;have f1:=h1.blk.free;go_wp2_with fail;exact P0.out _ _ _ (.inl (by first|trivial|rfl)) h1 hb1 rfl rfl
 |false=>
  by_cases h1:n<0
  .have t1:decide (n<0)=true:=(by simpa using h1);go_wp2_with fail;go_quiet (fail);go_upto_region 3 with (fail);refine af (fun W=>nQ W B C a cap bs k false/\Below w2.heap.size w2 W) ⟨h.old cL HB2,cL⟩ ?_;rintro w1 ⟨h1',hb1⟩;clear hc;have hc:=h1'.blk.rule;unfold fcV at hc;have f1:=h1'.blk.free;go_wp2_with fail;exact P0.out _ _ _ (.inr (.inl h1)) h1' hb1 rfl rfl
  .have t1:decide (n<0)=false:=(by simpa using h1);by_cases h2:z<n
   .have t2:decide (z<n)=true:=(by simpa using h2);go_wp2_with fail;go_quiet (fail);go_upto_region 3 with (fail);refine af (fun W=>nQ W B C a cap bs k false/\Below w2.heap.size w2 W) ⟨h.old cL HB2,cL⟩ ?_;rintro w1 ⟨h1',hb1⟩;clear hc;have hc:=h1'.blk.rule;unfold fcV at hc;have f1:=h1'.blk.free;go_wp2_with fail;exact P0.out _ _ _ (.inr (.inr h2)) h1' hb1 rfl rfl
   .have t2:decide (z<n)=false:=(by simpa using h2);go_wp2_with fail;go_quiet (fail);go_upto_region 5 with (fail);refine af (fun W=>nQ W B C a cap bs k false/\Below w2.heap.size w2 W) ⟨h.old cL HB2,cL⟩ ?_;rintro w1 ⟨h1',hb1⟩;clear hc;go_wp2_with fail;exact P1.out _ _ (by rintro (h|h|h)<;>first|omega|simp at h) h1' hb1 rfl
def jl (s:CS):List UInt8×CS:=((dF 1 s).2.b.take (dF 1 s).1,⟨(dF 1 s).2.b.drop (dF 1 s).1,(dF 1 s).2.bad⟩)
def Dy (w:World) (B C:Nat) (a:Option Addr) (cap:Nat) (bs:List UInt8) (s:CS) (e:Ending) (w':World):Prop:=
 e= .returned (.string (dy (jl s).1))/\FAt w' B C a cap bs (jl s).2/\aJ (fun x=>x=C) w w'
theorem qq (s:CS) (size:Nat) (h1:0<size):(dF size s).1*size<=(dF size s).2.b.length:=by
 unfold dF;split
 .simp
 .rename_i h;have h2:0<=(be s).1:=oA;have h3:(be s).1<=(((be s).2.b.length:Int)).tdiv size:=oA;rw [WH oA] at h3;have h4:(be s).1*size<=(be s).2.b.length:=Int.le_trans (Int.mul_le_mul_of_nonneg_right h3 oA) (Int.ediv_mul_le _ oA);dsimp only;obtain ⟨q,hq⟩:∃q:Nat,(be s).1=(q:Int):=⟨(be s).1.toNat,oA⟩;rw [hq] at h4⊢;rw [WM]
  exact_mod_cast h4
theorem pZ (w:World) (B C:Nat) (a:Option Addr) (cap:Nat) (bs:List UInt8) (s:CS) (h:FAt w B C a cap bs s) (hB:B<=w.heap.size):
  Calls prog 88 #[.pointer (some ⟨C,0,none⟩)] w (Dy w B C a cap bs s):=by
 have cb:=rD w B C a cap bs 1 s h hB dcA dcA;have hnl:=qq s 1 dcA;obtain ⟨F,hF⟩:=Le (Dy w B C a cap bs s);rw [<-hF];have HFF:=Hd hF;clear hF h;go_enter func88,ntmps88;go_wp2_with fail;refine cb.mono ?_;clear cb;rintro e w2 ⟨rfl,⟨k,h,hsb⟩,ht⟩;have HP:∀w1 w3,nQ w1 B C a cap bs k (dF 1 s).2.bad->Below w2.heap.size w2 w1->w3=w1.setCell ⟨C,1,none⟩ (.int .i64 ((k+(dF 1 s).1:Nat):Int))->F (.returned (.string (dy ((bs.drop k).take (dF 1 s).1)))) w3:=by
  rintro w1 w3 h1 hb1 rfl;rw [HFF.out];unfold Dy jl;dsimp only;rw [hsb];rw [hsb,ldA] at hnl;have:=h1.le;exact ⟨rfl,⟨k+(dF 1 s).1,h1.setAt _ oA,by dsimp only;rw [Wu]⟩,(ht.trans (aJ.of_below (F:=fun x=>x=C) hb1) fun _ hx=> .inl hx).one _⟩
 rw [hsb,ldA] at hnl;have HB2:=At hB ht.size;have P:=Hd HP;clear HP HFF hsb ht;generalize (dF 1 s).1=n at*;generalize (dF 1 s).2.bad=bd at*;have hle:=h.le;have hmx:=h.max;have hcp:=h.capOk;have hc:=h.blk.rule;unfold fcV at hc;have hn:k+n<=bs.length:=oA;have i1:IntKind.i64.wrap ((k:Int)+(n:Int))=((k+n:Nat):Int):=(by rw [VZ];omega);have i2:(k:Int)<=((k+n:Nat):Int):=oA;have i3:((k+n:Nat):Int)<=(cap:Int):=oA;have hrow:ah w2 (kP a cap k) ((bs.drop k).take n):=by
  unfold ah;rw [WE];exact aw.take n (ah.cutV h.row rfl h.capOk k h.le)
 have hlen:((bs.drop k).take n).length=n:=(by rw [ltA,ldA];omega);have hs:∀W,Below w2.heap.size w2 W->∀c,(convert 22 9 (.slice (kP a cap k) n c)).run prog W= .ok (.string (dy ((bs.drop k).take n))) W:=fun W hW c=>
  mh W underlying22 underlying5 underlying9 (hrow.below hW) hlen
 have hd:(((k+n:Nat):Int)).toNat-k=n:=oA;generalize dy ((bs.drop k).take n)=str at*;clear hrow hlen;by_cases hcq:cap=k
 .rw [show kP a cap k=a from if_pos hcq] at hs;subst hcq;have hs0:∀m,(convert 22 9 (.slice a n 0)).run prog (w2.drewN m)= .ok (.string str) (w2.drewN m):=fun m=>hs _ cL _;clear hs;go_wp2_with fail;go_quiet (fail);go_upto_region 3 with (fail);refine af (fun W=>nQ W B C a cap bs cap bd/\Below w2.heap.size w2 W) ⟨h.old cL HB2,cL⟩ ?_;rintro w1 ⟨h1,hb1⟩;clear hc;have hc:=h1.blk.rule;unfold fcV at hc;have f1:=h1.blk.free;go_wp2_with fail;exact P.out _ _ h1 hb1 rfl
 .rw [show kP a cap k=a.map (·.add k) from by unfold kP;rw [if_neg hcq,Vk]] at hs;have hs0:∀m,(convert 22 9 (.slice (a.map (·.add k)) n (cap-k))).run prog (w2.drewN m)= .ok (.string str) (w2.drewN m):=fun m=>hs _ cL _;clear hs;go_wp2_with fail;go_quiet (fail);go_upto_region 3 with (fail);refine af (fun W=>nQ W B C a cap bs k bd/\Below w2.heap.size w2 W) ⟨h.old cL HB2,cL⟩ ?_;rintro w1 ⟨h1,hb1⟩;clear hc;have hc:=h1.blk.rule;unfold fcV at hc;have f1:=h1.blk.free;go_wp2_with fail;exact P.out _ _ h1 hb1 rfl
def jS (s:CS):List Int×CS:=fm (dF 8 s).1 (dF 8 s).2
def MC (w:World) (B C:Nat) (a:Option Addr) (cap:Nat) (bs:List UInt8) (s:CS) (e:Ending) (w':World):Prop:=
 ∃l:Sl,e= .returned (.slice l.a l.n l.c)/\av w' w.heap.size l (jS s).1/\FAt w' B C a cap bs (jS s).2/\aJ (fun x=>x=C) w w'
def GS (w:World) (B C:Nat) (a:Option Addr) (cap:Nat) (bs:List UInt8) (N:Nat) (L:List Int×CS) (f:Nat) (v3 v5:Value) (wr:World):Prop:=
 ∃(i:Nat) (a':Option Addr) (c':Nat) (l:List Int) (s:CS),i+f=N/\v5= .int .i64 (i:Int)/\v3= .slice a' i c'/\l.length=i/\(∀x∈l,eO x)/\Own wr w.heap.size 3 1 a' i c' (l.map (Value.int .i64))/\FAt wr B C a cap bs s/\aJ (fun x=>x=C) w wr/\Hid (L=(l++(fm f s).1,(fm f s).2))
theorem FAt.lt {w:World} {B C cap:Nat} {a:Option Addr} {bs:List UInt8} {s:CS} (h:FAt w B C a cap bs s):C<w.heap.size:=by
 obtain ⟨k,h,-⟩:=h;exact h.blk.lt
theorem FAt.keep {w w':World} {B C cap:Nat} {a:Option Addr} {bs:List UInt8} {s:CS} (h:FAt w B C a cap bs s) (hk:w'.heap[C]? =w.heap[C]?) (hb:Below B w w'):FAt w' B C a cap bs s:=by
 obtain ⟨k,h,e⟩:=h;exact ⟨k,h.keep hk hb,e⟩
theorem qd (w:World) (B C:Nat) (a:Option Addr) (cap:Nat) (bs:List UInt8) (s:CS) (h:FAt w B C a cap bs s) (hB:B<=w.heap.size):
  Calls prog 89 #[.pointer (some ⟨C,0,none⟩)] w (MC w B C a cap bs s):=by
 have hCw:=h.lt;have cb:=rD w B C a cap bs 8 s h hB dcA dcA;have hnl:=qq s 8 dcA;obtain ⟨L,hL⟩:=Le (jS s);have HLs:=Hd hL;have HL:=Hd (show L=fm (dF 8 s).1 (dF 8 s).2 by rw [hL];rfl);clear hL h;go_enter func89,ntmps89;go_wp2_with fail;refine cb.mono ?_;clear cb;rintro e w1 ⟨rfl,h1,ht1⟩;have hmx:(dF 8 s).2.b.length<=1048576:=by
  obtain ⟨k,h,e⟩:=h1;rw [e,ldA];have:=h.max;omega
 generalize (dF 8 s).1=N at*;generalize (dF 8 s).2=s1 at*;have hN:N<=1048576:=oA;have hst:GS w B C a cap bs N L N (.slice none 0 0) (.int .i64 0) w1:=⟨0,none,0,[],s1,oA,rfl,rfl,rfl,fun x hx=>by simp at hx,Own.nil _ _ _ _,h1,ht1,Hd (by rw [HL.out];rfl)⟩;clear h1 ht1 HL hnl hmx;go_wp2_with fail;go_loopg [3,5,6] N (fun f v3 v5 _ wr=>GS w B C a cap bs N L f v3 v5 wr)
 case atStart=>exact hst
 case round=>
  clear hst;obtain ⟨i,a',c',l,s,hi,rfl,rfl,hll,hwf,hown,hc,ht,hL⟩:=hrel;by_cases hlt:i<N
  .have t0:decide ((i:Int)<(N:Int))=true:=soA;have hzr:=ht.size;have cb:=iJ wr B C a cap bs s hc (At hB hzr);go_wp2_with fail;refine cb.mono ?_;clear cb;rintro e w3 ⟨rfl,hc3,ht3⟩;obtain ⟨gf,hgf⟩:∃x,gk=x+1:=⟨gk-1,oA⟩;have hL3:=hL.out;rw [hgf] at hL3;have HL3:=Hd (show L=((l++ [(be s).1])++(fm gf (be s).2).1,(fm gf (be s).2).2) from by rw [hL3];simp [fm]);have hwm:=jd s;clear hL hL3;generalize (be s).1=v at*;generalize (be s).2=s3 at*;have hown3:Own w3 w.heap.size 3 1 a' i c' (l.map (Value.int .i64)):=hown.turn ht3 (fun x hx=>by subst hx;exact hCw);have ht03:=ht.trans ht3 fun _ hx=> .inl hx;have hz3:=ht03.size;have hA:=hown3.alloc (.cells #[.int .i64 v] 3);go_wp2_with (at_builtin;refine al rfl _ _ 34 rfl rB rfl hA rfl (aw.new' _ _ _ _ skA) rfA (by exact dg _ rfl) mxA oA soA ?_);intro a6 c6 w6 hown6 hg6;have hb6:Below w.heap.size w3 w6:=((AT _ _).alloc hz3 _).trans (hA.grown (AT _ _) (Lt _) hg6 soA);have hc6:FAt w6 B C a cap bs s3:=hc3.keep (hb6.block C hCw) (hb6.mono hB);have ht6:aJ (fun x=>x=C) w w6:=ht03.trans (aJ.of_ge hb6) fun x hx=> .inr hx;go_wp2_with fail;go_roundg gf
   case measure=>omega
   case rel=>
    refine ⟨i+1,a6,c6,l++ [v],s3,oA,gnA,rfl,by simp [hll],?_,by simpa using hown6,hc6,ht6,HL3⟩;intro x hx;rcases VQ.1 hx with hx|hx
    .exact hwf x hx
    .rw [VH.1 hx];exact hwm
  .have t0:decide ((i:Int)<(N:Int))=false:=soA;have hg0:gk=0:=oA;have hL3:=hL.out;rw [hg0] at hL3;have HL3:=Hd (show L=(l,s) from by rw [hL3];simp [fm]);clear hL hL3;go_wp2_with fail;go_ret;refine ⟨⟨a',i,c'⟩,rfl,?_⟩;rw [<-HLs.out,HL3.out];exact ⟨⟨hown,hown.row,hll,hown.le,hown.cap_le,by dsimp only;omega,hwf⟩,hc,ht⟩
end
section
open Go.RowKit
def Agr {α:Type} (x y:α×CS):Prop:=x.2.bad=y.2.bad/\(y.2.bad=false->x=y)
theorem me {n:Int} {s:CS} (h:s.bad=true):(dM n s).2.bad=true:=by
 unfold dM;split
 .rfl
 .exact h
theorem oy {s:CS} (h:s.bad=true):(be s).2.bad=true:=me h
theorem rH {s:CS} {n:Nat} (h:s.bad=true):(dF n s).2.bad=true:=by
 unfold dF;rw [if_pos (.inl (oy h))]
theorem pj {s:CS} (h:s.bad=true):(jl s).2.bad=true:=rH h
theorem pm {s:CS} (h:s.bad=true):(gw s).2.bad=true:=me (oy h)
theorem ms:∀(k:Nat) {s:CS},s.bad=true->(fm k s).2.bad=true
 |0,_,h=>h
 |k+1,_,h=>ms k (oy h)
theorem pT {s:CS} (h:s.bad=true):(jS s).2.bad=true:=ms _ (rH h)
theorem pV {s:CS} (h:s.bad=true):(gx s).2.bad=true:=by
 unfold gx;split
 .rfl
 .exact ms _ (oy h)
theorem sj (s:CS):Agr (jl s) (gw s):=by
 unfold jl gw dF;generalize (be s).1=n;generalize (be s).2=t;cases hb:t.bad with
 |true=>
  rw [if_pos (.inl rfl)];refine ⟨(me hb).symm,fun h=> ?_⟩;rw [me hb] at h;cases h
 |false=>
  have e:((t.b.length:Int)).tdiv ((1:Nat):Int)=t.b.length:=skA;by_cases hn:n<0\/(t.b.length:Int)<n
  .rw [if_pos (.inr (by rw [e];exact hn))];unfold dM;rw [if_pos hn];exact ⟨rfl,fun h=>by cases h⟩
  .rw [if_neg (by rw [e];rintro (h|h);cases h;exact hn h)];unfold dM;rw [if_neg hn];exact ⟨rfl,fun _=>rfl⟩
theorem sX (s:CS):Agr (jS s) (gx s):=by
 unfold jS gx dF;generalize (be s).1=n;generalize (be s).2=t;have e:((t.b.length:Int)).tdiv ((8:Nat):Int)=((t.b.length/8:Nat):Int):=(by rw [WH oA];omega);rw [e];cases hb:t.bad with
 |true=>
  rw [if_pos (.inl rfl)];have h2:(if n<0\/((t.b.length/8:Nat):Int)<n then ([],⟨t.b,true⟩) else fm n.toNat t:List Int×CS).2.bad=true:=by
   split
   .rfl
   .exact ms _ hb
  refine ⟨h2.symm,fun h=> ?_⟩;rw [h2] at h;cases h
 |false=>
  by_cases hn:n<0\/((t.b.length/8:Nat):Int)<n
  .rw [if_pos (.inr hn),if_pos hn];exact ⟨rfl,fun h=>by cases h⟩
  .rw [if_neg (by rintro (h|h);cases h;exact hn h),if_neg hn];exact ⟨rfl,fun _=>rfl⟩
theorem Agr.step {α:Type} {f g:CS->α×CS} (hfg:∀s,Agr (f s) (g s)) (hf:∀{s:CS},s.bad=true->(f s).2.bad=true) (hg:∀{s:CS},s.bad=true->(g s).2.bad=true)
  (u:ao->α->ao) {x y:ao×CS} (h:Agr x y):Agr (u x.1 (f x.2).1,(f x.2).2) (u y.1 (g y.2).1,(g y.2).2):=by
 cases hb:y.2.bad with
 |true=>
  have e1:=hf (h.1.trans hb);have e2:=hg hb;exact ⟨e1.trans e2.symm,fun h=>by rw [e2] at h;cases h⟩
 |false=>
  rw [h.2 hb];exact ⟨(hfg y.2).1,fun h2=>by rw [(hfg y.2).2 h2]⟩
def nt (p:ao) (s:CS):ao×CS:=({p with dr:=(jS s).1},(jS s).2)
def ns (p:ao) (s:CS):ao×CS:=nt {p with d1:=(jS s).1} (jS s).2
def lK (p:ao) (s:CS):ao×CS:=ns {p with d0:=(jS s).1} (jS s).2
def nr (p:ao) (s:CS):ao×CS:=lK {p with n1:=dy (jl s).1} (jl s).2
def np (p:ao) (s:CS):ao×CS:=nr {p with n0:=dy (jl s).1} (jl s).2
def CG:Nat->ao->CS->ao×CS
 |0=>nt
 |1=>ns
 |_=>lK
def Jf:Nat->ao->CS->ao×CS
 |0=>lK
 |1=>nr
 |_=>np
def Fh (p:ao) (s:CS):ao×CS:=np {p with fmt:=dy (jl s).1} (jl s).2
def tg (p:ao) (s:CS):ao×CS:=Fh {p with table:=(be s).1} (be s).2
theorem An {p q:ao} {s t:CS} (h:Agr (p,s) (q,t)):Agr (nt p s) (qo q t):=by
 unfold nt qo;have k:=Agr.step (x:=(p,s)) (y:=(q,t)) sX pT pV (fun (p:ao) l=>{p with dr:=l}) h;dsimp only at k;exact k
theorem Am {p q:ao} {s t:CS} (h:Agr (p,s) (q,t)):Agr (ns p s) (qm q t):=by
 unfold ns qm;have k:=Agr.step (x:=(p,s)) (y:=(q,t)) sX pT pV (fun (p:ao) l=>{p with d1:=l}) h;dsimp only at k;exact An k
theorem Al {p q:ao} {s t:CS} (h:Agr (p,s) (q,t)):Agr (lK p s) (nL q t):=by
 unfold lK nL;have k:=Agr.step (x:=(p,s)) (y:=(q,t)) sX pT pV (fun (p:ao) l=>{p with d0:=l}) h;dsimp only at k;exact Am k
theorem Ak {p q:ao} {s t:CS} (h:Agr (p,s) (q,t)):Agr (nr p s) (pR q t):=by
 unfold nr pR;have k:=Agr.step (x:=(p,s)) (y:=(q,t)) sj pj pm (fun (p:ao) l=>{p with n1:=dy l}) h;dsimp only at k;exact Al k
theorem Aj {p q:ao} {s t:CS} (h:Agr (p,s) (q,t)):Agr (np p s) (pQ q t):=by
 unfold np pQ;have k:=Agr.step (x:=(p,s)) (y:=(q,t)) sj pj pm (fun (p:ao) l=>{p with n0:=dy l}) h;dsimp only at k;exact Ak k
theorem JF {p q:ao} {s t:CS} (h:Agr (p,s) (q,t)):Agr (Fh p s) (Lq q t):=by
 unfold Fh Lq;have k:=Agr.step (x:=(p,s)) (y:=(q,t)) sj pj pm (fun (p:ao) l=>{p with fmt:=dy l}) h;dsimp only at k;exact Aj k
theorem Agr.refl {α:Type} (x:α×CS):Agr x x:=⟨rfl,fun _=>rfl⟩
theorem Dn (p:ao) (s:CS):Agr (tg p s) (xF p s):=JF (Agr.refl _)
def ML (s:CS):ao×CS:=if (be s).2.bad=true then (jx 2 (be s).1,(be s).2) else ({jx 2 (be s).1 with act:=(dP (be s).2.b).1},⟨[],decide ((dP (be s).2.b).2.2≠0)⟩)
def MH (k:Int) (s:CS):ao×CS:=if k=2 then ML s else if k=1 then tg (jx 1 (be s).1) (be s).2 else (jx k (be s).1,(be s).2)
theorem Ie (k:Int) (s:CS):Agr (MH k s) (sG k s):=by
 unfold MH sG;by_cases h2:k=2
 .subst h2;rw [if_pos rfl,if_neg dcA,if_pos rfl];unfold ML GL;cases hb:(be s).2.bad with
  |true=>
   rw [if_pos rfl];exact ⟨by simp [hb],fun h=>by simp at h⟩
  |false=>
   rw [if_neg dcA];exact ⟨skA,fun h=>by simp [jx]⟩
 .by_cases h1:k=1
  .subst h1;rw [if_neg dcA,if_pos rfl,if_pos rfl,vi];exact Dn _ _
  .rw [if_neg h2,if_neg h1,if_neg h1,if_neg h2];exact Agr.refl _
theorem Jh {x y:ao×CS} (h:Agr x y):uW x=uW y:=by
 cases hb:y.2.bad with
 |true=>
  unfold uW;rw [if_pos (.inl (h.1.trans hb)),if_pos (.inl hb)]
 |false=>rw [h.2 hb]
theorem Er (y:UInt8) (r:List UInt8):fY (y::r)=uW (MH (kW y) ⟨r,false⟩):=(Jh (Ie _ _)).symm
end
end Go.Proofs.YtioigihakjlopaaGreat

import Derived.Test.YtioigihakjlopaaGreatVF14
import Derived.Laws.StructEq
namespace Go.Proofs.YtioigihakjlopaaGreat
open Go.Proofs.Tryz
set_option linter.unusedVariables false
set_option linter.unusedSimpArgs false
set_option maxHeartbeats 16000000
set_option maxRecDepth 100000
section
open Go.RowKit
theorem Lh:Tryz.prog.arrayLen 268=64:=by kernel_rfl
theorem Gw:Tryz.prog.elem 268=196:=by kernel_rfl
theorem OX:Tryz.prog.underlying 268=some (.array (Tryz.prog.arrayLen 268) (Tryz.prog.elem 268)):=by rw [Lh,Gw];exact underlying268
theorem all8 (b o:Nat) (W:World):(Instr.sliceAt 267 (.pointer (some ⟨b,o,none⟩)) none none none).run prog W= .ok (.slice (some ⟨b,o,none⟩) 8 8) W:=by
 rw [WQ W _ _ OW,Fq,et jB,JU];simp [slicedAt,Vs]
theorem OY (b o:Nat) (W:World):(Instr.sliceAt 268 (.pointer (some ⟨b,o,none⟩)) none none none).run prog W= .ok (.slice (some ⟨b,o,none⟩) 64 64) W:=by
 rw [WQ W _ _ OX,Gw,et jB,Lh];simp [slicedAt,Vs]
theorem IX:JW.map wv=vL 8 fun j=>wv (hwd j):=rfl
theorem qIO:JV.map wv=vL 64 fun j=>wv (kwd j):=rfl
theorem Hx (w:World):Calls prog 195 #[.int .i64 8,.bool false] w fun e w'=>∃ad c,e= .returned (.slice (some ad) 8 c)/\aw w' (some ad) (vL 8 fun j=>wv (hwd j))/\Below w.heap.size w w':=
 (uh 8 false w oA).mono fun e w' ⟨k,a,c,hk,he,ho,hb⟩=>by
  rw [OA hk,IX] at ho;obtain ⟨b,o,rfl,_⟩:=ho.row 0 (by rw [cM];omega);exact ⟨_,c,he,ho.row,hb⟩
theorem Hw (w:World):Calls prog 195 #[.int .i64 64,.bool true] w fun e w'=>∃ad c,e= .returned (.slice (some ad) 64 c)/\aw w' (some ad) (vL 64 fun j=>wv (kwd j))/\Below w.heap.size w w':=
 (uh 64 true w oA).mono fun e w' ⟨k,a,c,hk,he,ho,hb⟩=>by
  rw [Oz hk,qIO] at ho;obtain ⟨b,o,rfl,_⟩:=ho.row 0 (by rw [cM];omega);exact ⟨_,c,he,ho.row,hb⟩
theorem aw.all {w:World} {ad:Addr} {vs:List Value} (h:aw w (some ad) vs):∀j v,vs[j]? =some v->w.cell? (ad.add j)=some v:=fun j v hv=>by
 obtain ⟨hj,rfl⟩:=Vg.1 hv;obtain ⟨b,o,e,hc⟩:=h j hj;obtain rfl:=Wo e;rw [Vs];exact hc
theorem FT {n:Nat} {f:Nat->Value} (h:∀i,(f i).oneCell'=true):∀v∈vL n f,v.oneCell'=true:=fun v hv=>by
 obtain ⟨i,_,rfl⟩:=VY.1 hv;exact h i
theorem IV (h:Nat->BitVec 32) (a:Option Addr) (n c:Nat) {N:Int} (i:Nat):(hcs h (.slice a n c) (.int .u64 N) i).oneCell'=true:=by
 unfold hcs;by_cases h1:i<8
 .rw [if_pos h1];rfl
 .rw [if_neg h1];by_cases h2:i=8
  .rw [if_pos h2];rfl
  .rw [if_neg h2];by_cases h3:i=9
   .rw [if_pos h3];rfl
   .rw [if_neg h3];rfl
theorem Bu (g:Nat) (f:Nat->Value) (w:World) (hg:Blk w g (vA 74 f) 270) (hf:∀j,j<64->f (10+j)=wv (kwd j)):
  Calls prog 196 #[.pointer (some ⟨g,0,none⟩)] w fun e w'=>e= .returned (.tuple #[])/\Blk w' g (vA 74 (hcs hwd (.slice none 0 0) (.int .u64 0))) 270/\w.grownBy w' (some g):=by
 have HF:=Hd hf;clear hf;have q1:=all8 g 0;go_enter func196,ntmps196;go_wp2_with fail;refine cj g (.step 0 (.step 1 (.step 2 (.step 3 (.step 4 (.step 5 .done)))))) krA krA cdA ?_
 repeat (first|refine tsA ?_|refine tqA ?_)
 refine an rfl rfl rfA (fun K hK=> ?_);go_wp2_with fail;refine (Hx _).mono ?_;rintro e w1 ⟨ad,c,rfl,hrow,hb1⟩;go_wp2_with fail;refine hK _ _ (But.of hb1) ?_;clear hK K q1;have hg1:Blk w1 g (vA 74 f) 270:=hg.drew.old hb1;have ho1:w.grownBy w1 (some g):=BN (iC (Vv w _)) hb1;refine an rfl rfl rfA (fun K hK=> ?_);refine gF (.tmp 7) (.tmp 8) 271 271 rfl underlying271 jB rfl rfl hg1 (cs:=vL 8 fun j=>wv (hwd j)) (by rw [cM];rfl) hrow.all (by rw [cM,ax];omega) (FT fun _=>rfl) ?_;refine hK _ _ (But.setRow _ _) ?_;clear hK K;refine ap ?_;rw [show (vL 8 fun j=>wv (hwd j)).toArray=vA 8 fun j=>wv (hwd j) from rfl,kg _ _ oA];refine jI (fun W0=>Blk W0 g (vA 74 fun j=>if 0<=j/\j<0+8 then wv (hwd (j-0)) else f j) 270/\w.grownBy W0 (some g)) ⟨hg1.setRow _,pK ho1 _⟩ ?_;clear hg hg1 ho1 hb1 hrow;rintro w2 ⟨hg,ho⟩;have c8:w2.cell? ⟨g,8,none⟩=some (f 8):=hg.atV oA (if_neg oA);have c9:w2.cell? ⟨g,9,none⟩=some (f 9):=hg.atV oA (if_neg oA);have hfz:=hg.free;go_wp2_with fail;clear c8 c9 hfz;go_end0;refine ⟨rfl,?_,fR (fR ho 8 _) 9 _⟩;refine ((hg.setV oA _).setV oA _).ofV fun j hj=> ?_;unfold hcs;by_cases h9:j=9
 .subst h9;rfl
 .rw [if_neg h9];by_cases h8:j=8
  .subst h8;rfl
  .rw [if_neg h8];by_cases h7:j<8
   .rw [if_pos ⟨oA,oA⟩,if_pos h7];rfl
   .rw [if_neg oA,if_neg h7,if_neg h8,if_neg h9];have:=HF.out (j-10) oA;rwa [show 10+(j-10)=j by omega] at this
def iH (j:Nat):Value:=if j<8 then .int .u32 0 else if j=8 then .slice none 0 0 else if j=9 then .int .u64 0 else .int .u32 0
theorem Lo:Tryz.prog.built 270 []=some (vA 74 iH):=by kernel_rfl
def JQ (w:World) (e:Ending) (w':World):Prop:=
 ∃g,e= .returned (.pointer (some ⟨g,0,none⟩))/\w.heap.size<=g/\Blk w' g (vA 74 (hcs hwd (.slice none 0 0) (.int .u64 0))) 270/\Below w.heap.size w w'
theorem cG.nil {w:World} {g:Nat} (h:Blk w g (vA 74 (hcs hwd (.slice none 0 0) (.int .u64 0))) 270) (B:Nat):cG w B g [] none 0 0:=⟨h,Mid.nil' _ _ _,skA⟩
theorem pu (w:World):Calls prog 183 #[] w (JQ w):=by
 obtain ⟨g,hg⟩:=Le w.heap.size;have hB:=Blk.new w (vA 74 iH) 270;rw [<-hg] at hB;have HG:=Hd hg;have c0:(Tryz.prog.built 270 []).getD #[]=vA 74 iH:=(by rw [Lo];rfl);have HC:=Hd c0;clear hg c0;go_enter func183,ntmps183;go_wp2_with (refine wpList_build rfl 270 #[] rfl (by simp [Lo]) ?_);rw [HC.out,<-HG.out];have hb0:Below g w (w.alloc (.cells (vA 74 iH) 270)):=(AT _ _).alloc (by rw [HG.out];exact Lt _) _;refine af (fun W0=>Blk W0 g (vA 74 iH) 270/\Below g w W0) ⟨hB,hb0⟩ ?_;clear hB hb0;rintro w0 ⟨hB,hb⟩;have q1:=OY g 10;refine cj g (.step 0 (.step 1 (.step 2 (.step 3 (.step 4 (.step 5 .done)))))) krA krA cdA ?_
 repeat (first|refine tsA ?_|refine tqA ?_)
 refine an rfl rfl rfA (fun K hK=> ?_);go_wp2_with fail;refine (Hw _).mono ?_;rintro e w1 ⟨ad,c,rfl,hrow,hb1⟩;go_wp2_with fail;refine hK _ _ (But.of hb1) ?_;clear hK K q1;have hg1:Blk w1 g (vA 74 iH) 270:=hB.drew.old hb1;have hb01:Below g w w1:=hb.drew.trans (hb1.mono (by have:=hB.lt;show g<=w0.heap.size;omega));refine an rfl rfl rfA (fun K hK=> ?_);refine gF (.tmp 7) (.tmp 8) 271 271 rfl underlying271 jB rfl rfl hg1 (cs:=vL 64 fun j=>wv (kwd j)) (by rw [cM];rfl) hrow.all (by rw [cM,ax];omega) (FT fun _=>rfl) ?_;refine hK _ _ (But.setRow _ _) ?_;clear hK K;refine ap ?_;rw [show (vL 64 fun j=>wv (kwd j)).toArray=vA 64 fun j=>wv (kwd j) from rfl,kg _ _ oA];refine jI (fun W0=>Blk W0 g (vA 74 fun j=>if 10<=j/\j<10+64 then wv (kwd (j-10)) else iH j) 270/\Below g w W0) ⟨hg1.setRow _,ag hb01 (Lt _) _⟩ ?_;clear hB hg1 hb hb1 hb01 hrow;rintro w2 ⟨hB,hb⟩;go_wp2_with fail;refine (Bu g _ _ hB (fun j hj=>by rw [if_pos ⟨oA,oA⟩,Nat.add_sub_cancel_left])).mono ?_;rintro e w3 ⟨rfl,hB3,ho3⟩;go_wp2_with fail;go_ret;refine ⟨g,rfl,by rw [HG.out];exact Lt _,hB3,?_⟩;rw [<-HG.out];exact kT hb (by have:=hB.lt;omega) ho3 (Lt _)
def FO (w:World) (l:List UInt8) (n:Nat) (e:Ending) (w':World):Prop:=
 ∃g a c,e= .returned (.pointer (some ⟨g,0,none⟩))/\w.heap.size<=g/\cG w' w.heap.size g l a n c/\Below w.heap.size w w'
theorem yD (B g:Nat) (l:List UInt8) (a:Option Addr) (n c:Nat) (w:World) (hH:cG w B g l a n c):
  Calls prog 187 #[.pointer (some ⟨g,0,none⟩)] w (FO w l n):=by
 have hh:=hH.hash;have hrow:=hH.row;have hlt:=hH.lt;have hnl:n<=l.length:=(by have:=hrow.len;rw [<-this];simp);have hzr:=iQ (show (Tryz.prog.info? 270).bind (·.zero)=some (.agg (vA 74 iH)) by kernel_rfl);have HH:=Hd hH;clear hH;go_enter func187,ntmps187;go_upto_region 4 with (first|refine am rfl 270 Ln _ rfl rfl hh (ax _ _) ?_|refine aa rfl 270 Ln (.tmp 3) _ rfl rfl rfl (Blk.new _ _ _) (ax _ _) (ax _ _) (du fun i _=>IV _ _ _ _ i) ?_);clear hzr;obtain ⟨G,hG⟩:=Le w.heap.size;have hB0:=Blk.new w (vA 74 iH) 270;rw [<-hG] at hB0⊢;have HG:=Hd hG;have hgl:g<G:=(by rw [hG];exact hh.lt);have hb0:Below G w ((w.alloc (.cells (vA 74 iH) 270)).setRow G (vA 74 (hcs (stt l (l.length/64)) (.slice a n c) (.int .u64 (l.length:Int))))):=ag ((AT _ _).alloc oA _) (Lt _) _;have hs0:((w.alloc (.cells (vA 74 iH) 270)).setRow G (vA 74 (hcs (stt l (l.length/64)) (.slice a n c) (.int .u64 (l.length:Int))))).heap.size=G+1:=(by simp [World.setRow,<-hG]);refine af (fun W0=>Blk W0 G (vA 74 (hcs (stt l (l.length/64)) (.slice a n c) (.int .u64 (l.length:Int)))) 270/\Below G w W0/\W0.heap.size=G+1) ⟨hB0.setRow _,hb0,hs0⟩ ?_;clear hB0 hb0 hs0 hh hG;rintro w1 ⟨hB,hb,hs⟩;have hold:Below w.heap.size w w1:=(by rw [<-HG.out];exact hb);have hread:=aw.below hrow.read hold;have hc8:w1.cell? ⟨g,8,none⟩=some (.slice a n c):=(HH.out.hash.old hold).atV oA (wN _ _ _);have hgs:g<w1.heap.size:=oA;have HS:=Hd hs;have hmid:Mid w1 G 5 (some ⟨w1.heap.size,0,none⟩) 0 0 []:=⟨rfl,Lt _,mxA,(fun h=>by cases h),fun h=>by omega⟩;clear hs hold;go_wp2_with (at_builtin;refine df rfl (.tmp 9) (.tmp 13) 22 rfl dK rfl (hmid.alloc _) rfl (hread.alloc _) (by rw [hrow.len]) (by intro u hu;obtain ⟨_,_,rfl⟩:=VY.1 hu;rfl) mxA oA (by simp;have:=HS.out;omega) ?_);intro a2 c2 w2 hm2 hg2 hr2;have hrn:bE (some (⟨w1.heap.size,0,none⟩:Addr)) 0=none:=rfl;rw [hrn] at hg2 hr2;have hB2:=(hB.alloc (.cells #[] 5)).grown hg2 skA;have hb2:Below G w w2:=(hb.alloc (by have:=HS.out;omega) _).grown hg2 (by simp;have:=HS.out;omega) skA;have hc8':w2.cell? ⟨G,8,none⟩=some (.slice a n c):=hB2.atV oA (wN _ _ _);have hfz:=hB2.free;clear hc8;go_wp2_with fail;clear hc8' hfz;go_ret;refine ⟨G,a2,c2,skA,by rw [<-HG.out];exact Lt _,⟨?_,?_,hlt⟩,?_⟩
 .refine (hB2.setV oA _).ofV fun j _=> ?_;rw [tf]
 .rw [<-HG.out];have:=hm2.setCell hB2 dcA 8 (.slice a2 (0+n) c2);simpa using this
 .rw [<-HG.out];exact hb2.setCell (Lt _) _
def pdl (l:List UInt8) (z:Nat):List UInt8:=l++ [128]++List.replicate z 0
def zN (n:Nat):Nat:=(119-n%64)%64
def iL (n i:Nat):UInt8:=⟨BitVec.ofNat 8 (n/2^(56-8*i))⟩
def eJ (n:Nat):List UInt8:=(List.range 8).map (iL n)
def mL (l:List UInt8):List UInt8:=pdl l (zN l.length)++eJ (l.length*8)
def CI (l:List UInt8):Nat->BitVec 32:=stt (mL l) ((mL l).length/64)
def dgb (l:List UInt8) (i:Nat):UInt8:=⟨(CI l (i/4)>>>(24-8*(i%4))).setWidth 8⟩
def dgA (l:List UInt8):Array Value:=vA 32 fun i=>bv (dgb l i)
theorem jp (l:List UInt8) (z:Nat):(pdl l z).length=l.length+1+z:=by simp [pdl];omega
theorem xV (l:List UInt8) (z:Nat):pdl l (z+1)=pdl l z++ [0]:=by simp [pdl,List.replicate_succ']
theorem aL (n:Nat):(eJ n).length=8:=by rw [eJ,lmA,List.length_range]
theorem Lg:Tryz.prog.arrayLen 260=8:=by kernel_rfl
theorem Gv:Tryz.prog.elem 260=5:=by kernel_rfl
theorem OV:Tryz.prog.underlying 260=some (.array (Tryz.prog.arrayLen 260) (Tryz.prog.elem 260)):=by rw [Lg,Gv];exact underlying260
theorem LY (b:Nat) (W:World):(Instr.sliceAt 260 (.pointer (some ⟨b,0,none⟩)) none none none).run prog W= .ok (.slice (some ⟨b,0,none⟩) 8 8) W:=by
 rw [WQ W _ _ OV,Gv,et jk,Lg];simp [slicedAt];rfl
theorem jJ (n:Nat) (L:Nat) (i:Nat) (p:Int) (hn:n=L*8) (hp:p=((2^(56-8*i):Nat):Int)):(L:Int)*8/p%256=U8 (iL n i):=by
 subst hn;have e:U8 (iL (L*8) i)=(((L*8/2^(56-8*i))%2^8:Nat):Int):=by
  show (((BitVec.ofNat 8 (L*8/2^(56-8*i))).toNat:Nat):Int)=_;rw [We]
 rw [e,hp];generalize 2^(56-8*i)=P;rw [Int.natCast_emod,Int.natCast_ediv,Int.natCast_mul];rfl
theorem cG.alloc {w:World} {B g:Nat} {l:List UInt8} {a:Option Addr} {n c:Nat} (h:cG w B g l a n c) (o:Obj):cG (w.alloc o) B g l a n c:=⟨h.hash.alloc _,h.row.alloc _,h.lt⟩
theorem cG.left {w:World} {B g:Nat} {l:List UInt8} {a:Option Addr} {n c:Nat} (h:cG w B g l a n c):n=l.length%64:=by
 have:=h.row.len;rw [<-this];simp;omega
theorem cG.cell {w:World} {B g:Nat} {l:List UInt8} {a:Option Addr} {n c:Nat} (h:cG w B g l a n c):w.cell? ⟨g,8,none⟩=some (.slice a n c):=h.hash.atV oA (wN _ _ _)
theorem cG.setCell {w:World} {B g:Nat} {l:List UInt8} {a:Option Addr} {n c:Nat} (h:cG w B g l a n c) {T:Nat} {cs:Array Value} {t:TypeId} (hT:Blk w T cs t) (h1:t≠270) (h2:t≠5) (i:Nat) (v:Value):cG (w.setCell ⟨T,i,none⟩ v) B g l a n c:=
 ⟨h.hash.other _ _ (Blk.ne h.hash hT (Vf h1)),h.row.setCell hT h2 _ _,h.lt⟩
theorem cG.setRow {w:World} {B g:Nat} {l:List UInt8} {a:Option Addr} {n c:Nat} (h:cG w B g l a n c) {T:Nat} {cs:Array Value} {t:TypeId} (hT:Blk w T cs t) (h1:t≠270) (h2:t≠5) (cs':Array Value):cG (w.setRow T cs') B g l a n c:=
 ⟨h.hash.setRow_other _ _ (Blk.ne h.hash hT (Vf h1)),h.row.setRow hT h2 _,h.lt⟩
theorem cG.old {w w':World} {B g:Nat} {l:List UInt8} {a:Option Addr} {n c:Nat} (h:cG w B g l a n c) (hb:Below w.heap.size w w'):cG w' B g l a n c:=⟨h.hash.old hb,h.row.old hb,h.lt⟩
structure Au (w:World) (H g:Nat) (l:List UInt8) (a:Option Addr) (n c:Nat) (wr:World):Prop where
 hash:cG wr H g l a n c
 res:∃z:Array Value,z.size=32/\Blk wr H z 170
 out:Blk wr (H+1) (vA 32 fun _=> .int .u8 0) 170
 below:Below H w wr
section
variable {w:World} {H g:Nat} {l:List UInt8} {a:Option Addr} {n c:Nat} {wr wq:World}
theorem Au.alloc (h:Au w H g l a n c wr) (o:Obj):Au w H g l a n c (wr.alloc o):=
 ⟨h.hash.alloc o,by obtain ⟨z,hz,hZ⟩:=h.res;exact ⟨z,hz,hZ.alloc o⟩,h.out.alloc o,h.below.alloc (by have:=h.out.lt;omega) o⟩
theorem Au.rowNe (h:Au w H g l a n c wr) {b:Nat} {cs:Array Value} {t:TypeId} (hb:Blk wr b cs t) (ht:t≠5):bE a c≠some b:=fun e=>by
 obtain ⟨_,_,cur,hcur⟩:=h.hash.row.lt e;exact Blk.ne hcur hb (Vf ht) rfl
theorem Au.write (h:Au w H g l a n c wr) (hg:H+1<g) {b:List UInt8} {a':Option Addr} {n' c':Nat} (hp:cG wq H g (l++b) a' n' c') (hfr:oO wr wq g (bE a c)):Au w H g (l++b) a' n' c' wq:=
 ⟨hp,by obtain ⟨z,hz,hZ⟩:=h.res;exact ⟨z,hz,hfr.blk hZ oA (h.rowNe hZ dcA)⟩,hfr.blk h.out oA (h.rowNe h.out dcA),
  h.below.trans (hfr.below oA (fun b hb=>(h.hash.row.lt hb).1) (by have:=h.out.lt;omega))⟩
end
def Sm1 (w:World) (H g:Nat) (l:List UInt8) (f:Nat) (wr:World):Prop:=
 ∃(z:Nat) (a:Option Addr) (n c:Nat),f+z=zN l.length/\Au w H g (pdl l z) a n c wr
def Sm2 (w:World) (H g T:Nat) (l:List UInt8) (a:Option Addr) (n c:Nat) (f:Nat) (i:Value) (wr:World):Prop:=
 ∃k:Nat,f+k=8/\i= .int .i64 (k:Int)/\Au w H g (pdl l (zN l.length)) a n c wr/\Blk wr T (vA 8 fun j=>if j<k then bv (iL (l.length*8) j) else .int .u8 0) 260
def Sm3 (w:World) (H g:Nat) (l:List UInt8) (f:Nat) (i:Value) (wr:World):Prop:=
 ∃k:Nat,f+k=32/\i= .int .i64 (k:Int)/\(∃r n,Blk wr g (vA 74 (hcs (CI l) r n)) 270)/\(∃z:Array Value,z.size=32/\Blk wr H z 170)/\Blk wr (H+1) (vA 32 fun j=>if j<k then bv (dgb l j) else .int .u8 0) 170/\Below H w wr
theorem GB {w:World} (x:UInt8) {v:Value} (hv:v=bv x):ah (w.alloc (.cells #[v] 5)) (some ⟨w.heap.size,0,none⟩) [x]:=by
 subst hv;exact aw.new w #[bv x] 5
theorem qk (x:BitVec 32) (s:Nat) (p:Int) (hp:p=(2:Int)^s):U32 x/p%256=U8 ⟨(x>>>s).setWidth 8⟩:=by
 rw [hp,jK];exact mH _
theorem qj (l:List UInt8) (j k:Nat) (x:Int) (h:x=U8 (dgb l k)):(if j=k then Value.int .u8 x else if j<k then bv (dgb l j) else .int .u8 0)=if j<k+1 then bv (dgb l j) else .int .u8 0:=by
 subst h;by_cases e:j=k
 .subst e;rw [if_pos rfl,if_pos oA];rfl
 .rw [if_neg e];by_cases e2:j<k
  .rw [if_pos e2,if_pos oA]
  .rw [if_neg e2,if_neg oA]
theorem gN (j k:Nat) (n:Nat) (x:Int) (h:x=U8 (iL n k)):(if j=k then Value.int .u8 x else if j<k then bv (iL n j) else .int .u8 0)=if j<k+1 then bv (iL n j) else .int .u8 0:=by
 subst h;by_cases e:j=k
 .subst e;rw [if_pos rfl,if_pos oA];rfl
 .rw [if_neg e];by_cases e2:j<k
  .rw [if_pos e2,if_pos oA]
  .rw [if_neg e2,if_neg oA]
theorem sZ (B g:Nat) (l:List UInt8) (a:Option Addr) (n c:Nat) (w:World) (hH:cG w B g l a n c) (hl:l.length<140737488353000):
  Calls prog 188 #[.pointer (some ⟨g,0,none⟩)] w fun e w'=>e= .returned (.agg (dgA l))/\Below w.heap.size w w':=by
 have hlt:=hH.lt;go_enter func188,ntmps188;go_upto_region 4 with (fail);refine af (fun W0=>cG W0 B g l a n c/\Blk W0 w.heap.size (vA 32 fun _=> .int .u8 0) 170/\Blk W0 (w.heap.size+1) (vA 32 fun _=> .int .u8 0) 170/\Below w.heap.size w W0) ⟨(hH.alloc _).alloc _,Blk.new2 _ _ _ _,Blk.new2' _ _ _ _,cL⟩ ?_;rintro w0 ⟨hH,hR,hO,hb⟩;obtain ⟨H,hHH⟩:=Le w.heap.size;rw [<-hHH] at hR hO hb⊢;have HH:=Hd hHH;clear hHH;go_wp2_with fail;refine (yD B g l a n c _ hH).mono ?_;rintro e w1 ⟨g2,a1,c1,rfl,hg2,hc1,hb1⟩;have hc9:w1.cell? ⟨g,9,none⟩=some (.int .u64 (l.length:Int)):=(hH.hash.old hb1).atV oA (Lm _ _ _);have hHg:H+1<g2:=(by have:=hO.lt;omega);have hI:Au w H g2 l a1 n c1 w1:=⟨⟨hc1.hash,hc1.row.lower (by have:=hR.lt;omega),hc1.lt⟩,⟨_,ax _ _,hR.old hb1⟩,hO.old hb1,hb.trans (hb1.mono (by have:=hR.lt;omega))⟩;clear hH hR hO hb hg2 hc1 hb1;obtain ⟨L,hL⟩:=Le l.length;rw [<-hL] at hc9 hlt hl;have HL:=Hd hL;clear hL;go_wp2_with fail;refine (gM H g2 l [128] a1 n c1 _ 1 1 _ (hI.alloc _).hash (GB 128 rfl) rfl (by rw [<-HL.out];omega) (by simp;have:=hI.out.lt;omega)).mono ?_;rintro e w2 ⟨a2,n2,c2,rfl,hH2,hfr2,-⟩;have hI2:=(hI.alloc (.cells #[bv 128] 5)).write hHg hH2 hfr2;clear hI hH2 hfr2 hc9;go_wp2_with fail;have hst:Sm1 w H g2 l (zN l.length) w2:=⟨0,a2,n2,c2,oA,by rw [show pdl l 0=l++ [128] by simp [pdl]];exact hI2⟩;clear hI2;go_loopg [30] (zN l.length) (fun f _ wr=>Sm1 w H g2 l f wr)
 case atStart=>exact hst
 case round=>
  clear hst;obtain ⟨z,a,n,c,hf,hI⟩:=hrel;have hcl:=hI.hash.cell;have hnn:=hI.hash.left;rw [jp,<-HL.out] at hnn;have hf':=hf;rw [<-HL.out] at hf';have hz:z<=zN L:=oA;have hzn:(n=56↔z=zN L):=(by unfold zN at hz⊢;omega);have HF:=Hd hf;clear hf;by_cases h56:n=56
  .have HZ:=Hd (hzn.1 h56);clear hnn hf' hzn hz;subst h56;go_wp2_with fail;clear hcl;have hIz:Au w H g2 (pdl l (zN l.length)) a 56 c wr:=by
    have:=HZ.out;rw [HL.out] at this;rw [<-this];exact hI
   clear hI;obtain ⟨T,hT⟩:=Le wr.heap.size;have hgT:g2<T:=(by have:=hIz.hash.hash.lt;omega);have hT0:=Blk.new wr (vA 8 fun _=> .int .u8 0) 260;rw [<-hT] at hT0⊢;refine af (fun W0=>Au w H g2 (pdl l (zN l.length)) a 56 c W0/\Blk W0 T (vA 8 fun _=> .int .u8 0) 260) ⟨hIz.alloc _,hT0⟩ ?_;clear hIz hT hT0;rintro w3 ⟨hI,hT⟩;go_loopg [31] 8 (Sm2 w H g2 T l a 56 c)
   case atStart=>exact ⟨0,oA,rfl,hI,hT⟩
   case round=>
    clear hI hT;obtain ⟨k,hf,rfl,hI,hT⟩:=hrel;have HF2:=Hd hf;clear hf;by_cases hk:k<8
    .have hcs:k=0\/k=1\/k=2\/k=3\/k=4\/k=5\/k=6\/k=7:=oA;rcases hcs with rfl|rfl|rfl|rfl|rfl|rfl|rfl|rfl
     .have c0:=hT.atV (show 0<8 by omega) rfl;have f0:=hT.free;go_wp2_with fail;clear c0 f0;go_roundg (gk-1)
      case rel=>
       refine ⟨1,by have:=HF2.out;omega,rfl,⟨hI.hash.setCell hT dcA dcA _ _,by obtain ⟨z,hz,hZ⟩:=hI.res;exact ⟨z,hz,hZ.other _ _ (by show H≠T;omega)⟩,hI.out.other _ _ (by show H+1≠T;omega),hI.below.setCell (by show H<=T;omega) _⟩,?_⟩;have E:=jJ (l.length*8) L 0 72057594037927936 (by rw [HL.out]) rfl;refine (hT.setV oA _).ofV fun j _=> ?_;exact gN j 0 _ _ (by first|exact E|(rw [<-E];omega))
      case measure=>have:=HF2.out;omega
     .have c0:=hT.atV (show 1<8 by omega) rfl;have f0:=hT.free;go_wp2_with fail;clear c0 f0;go_roundg (gk-1)
      case rel=>
       refine ⟨2,by have:=HF2.out;omega,rfl,⟨hI.hash.setCell hT dcA dcA _ _,by obtain ⟨z,hz,hZ⟩:=hI.res;exact ⟨z,hz,hZ.other _ _ (by show H≠T;omega)⟩,hI.out.other _ _ (by show H+1≠T;omega),hI.below.setCell (by show H<=T;omega) _⟩,?_⟩;have E:=jJ (l.length*8) L 1 281474976710656 (by rw [HL.out]) rfl;refine (hT.setV oA _).ofV fun j _=> ?_;exact gN j 1 _ _ (by first|exact E|(rw [<-E];omega))
      case measure=>have:=HF2.out;omega
     .have c0:=hT.atV (show 2<8 by omega) rfl;have f0:=hT.free;go_wp2_with fail;clear c0 f0;go_roundg (gk-1)
      case rel=>
       refine ⟨3,by have:=HF2.out;omega,rfl,⟨hI.hash.setCell hT dcA dcA _ _,by obtain ⟨z,hz,hZ⟩:=hI.res;exact ⟨z,hz,hZ.other _ _ (by show H≠T;omega)⟩,hI.out.other _ _ (by show H+1≠T;omega),hI.below.setCell (by show H<=T;omega) _⟩,?_⟩;have E:=jJ (l.length*8) L 2 1099511627776 (by rw [HL.out]) rfl;refine (hT.setV oA _).ofV fun j _=> ?_;exact gN j 2 _ _ (by first|exact E|(rw [<-E];omega))
      case measure=>have:=HF2.out;omega
     .have c0:=hT.atV (show 3<8 by omega) rfl;have f0:=hT.free;go_wp2_with fail;clear c0 f0;go_roundg (gk-1)
      case rel=>
       refine ⟨4,by have:=HF2.out;omega,rfl,⟨hI.hash.setCell hT dcA dcA _ _,by obtain ⟨z,hz,hZ⟩:=hI.res;exact ⟨z,hz,hZ.other _ _ (by show H≠T;omega)⟩,hI.out.other _ _ (by show H+1≠T;omega),hI.below.setCell (by show H<=T;omega) _⟩,?_⟩;have E:=jJ (l.length*8) L 3 4294967296 (by rw [HL.out]) rfl;refine (hT.setV oA _).ofV fun j _=> ?_;exact gN j 3 _ _ (by first|exact E|(rw [<-E];omega))
      case measure=>have:=HF2.out;omega
     .have c0:=hT.atV (show 4<8 by omega) rfl;have f0:=hT.free;go_wp2_with fail;clear c0 f0;go_roundg (gk-1)
      case rel=>
       refine ⟨5,by have:=HF2.out;omega,rfl,⟨hI.hash.setCell hT dcA dcA _ _,by obtain ⟨z,hz,hZ⟩:=hI.res;exact ⟨z,hz,hZ.other _ _ (by show H≠T;omega)⟩,hI.out.other _ _ (by show H+1≠T;omega),hI.below.setCell (by show H<=T;omega) _⟩,?_⟩;have E:=jJ (l.length*8) L 4 16777216 (by rw [HL.out]) rfl;refine (hT.setV oA _).ofV fun j _=> ?_;exact gN j 4 _ _ (by first|exact E|(rw [<-E];omega))
      case measure=>have:=HF2.out;omega
     .have c0:=hT.atV (show 5<8 by omega) rfl;have f0:=hT.free;go_wp2_with fail;clear c0 f0;go_roundg (gk-1)
      case rel=>
       refine ⟨6,by have:=HF2.out;omega,rfl,⟨hI.hash.setCell hT dcA dcA _ _,by obtain ⟨z,hz,hZ⟩:=hI.res;exact ⟨z,hz,hZ.other _ _ (by show H≠T;omega)⟩,hI.out.other _ _ (by show H+1≠T;omega),hI.below.setCell (by show H<=T;omega) _⟩,?_⟩;have E:=jJ (l.length*8) L 5 65536 (by rw [HL.out]) rfl;refine (hT.setV oA _).ofV fun j _=> ?_;exact gN j 5 _ _ (by first|exact E|(rw [<-E];omega))
      case measure=>have:=HF2.out;omega
     .have c0:=hT.atV (show 6<8 by omega) rfl;have f0:=hT.free;go_wp2_with fail;clear c0 f0;go_roundg (gk-1)
      case rel=>
       refine ⟨7,by have:=HF2.out;omega,rfl,⟨hI.hash.setCell hT dcA dcA _ _,by obtain ⟨z,hz,hZ⟩:=hI.res;exact ⟨z,hz,hZ.other _ _ (by show H≠T;omega)⟩,hI.out.other _ _ (by show H+1≠T;omega),hI.below.setCell (by show H<=T;omega) _⟩,?_⟩;have E:=jJ (l.length*8) L 6 256 (by rw [HL.out]) rfl;refine (hT.setV oA _).ofV fun j _=> ?_;exact gN j 6 _ _ (by first|exact E|(rw [<-E];omega))
      case measure=>have:=HF2.out;omega
     .have c0:=hT.atV (show 7<8 by omega) rfl;have f0:=hT.free;go_wp2_with fail;clear c0 f0;go_roundg (gk-1)
      case rel=>
       refine ⟨8,by have:=HF2.out;omega,rfl,⟨hI.hash.setCell hT dcA dcA _ _,by obtain ⟨z,hz,hZ⟩:=hI.res;exact ⟨z,hz,hZ.other _ _ (by show H≠T;omega)⟩,hI.out.other _ _ (by show H+1≠T;omega),hI.below.setCell (by show H<=T;omega) _⟩,?_⟩;have E:=jJ (l.length*8) L 7 1 (by rw [HL.out]) rfl;refine (hT.setV oA _).ofV fun j _=> ?_;exact gN j 7 _ _ (by first|exact E|(rw [<-E];omega))
      case measure=>have:=HF2.out;omega
    .have:=HF2.out;obtain rfl:k=8:=oA;clear this;have hbytes:ah wr (some ⟨T,0,none⟩) (eJ (l.length*8)):=by
      have hTT:=hT.ofV (g:=fun j=>bv (iL (l.length*8) j)) fun j hj=>if_pos hj;refine aw.mk fun j hj=> ?_;rw [lmA,aL] at hj;rw [VS,hTT.atV hj rfl];simp [eJ]
     have hsl:=LY T;clear hT;go_wp2_with fail;refine (gM H g2 (pdl l (zN l.length)) (eJ (l.length*8)) a 56 c _ 8 8 wr hI.hash hbytes (aL _) (by rw [jp];unfold zN;have:=HL.out;omega) (by have:=hI.out.lt;omega)).mono ?_;rintro e w4 ⟨a4,n4,c4,rfl,hH4,hfr4,-⟩;have hI4:=hI.write hHg hH4 hfr4;have hst:Sm3 w H g2 l 32 (.int .i64 0) w4:=⟨0,oA,rfl,⟨_,_,hI4.hash.hash⟩,hI4.res,hI4.out.ofV fun j _=>by rw [if_neg oA],hI4.below⟩;clear hI hH4 hfr4 hI4 hsl hbytes;go_wp2_with fail;go_loopg [46] 32 (Sm3 w H g2 l)
     case atStart=>exact hst
     case round=>
      clear hst;obtain ⟨k,hf,rfl,⟨r,nn,hG⟩,⟨z,hz,hZ⟩,hO,hb⟩:=hrel;have HF3:=Hd hf;clear hf;by_cases hk:k<32
      .have tk:decide ((k:Int)<32)=true:=soA;have hkI:(k:Int)<32:=oA;obtain ⟨p,hp⟩:=Le (k/4);have hpI:(k:Int)/4=(p:Int):=oA;have hp8:(p:Int)<8:=oA;have c0:wr.cell? ⟨g2,p,none⟩=some (.int .u32 (U32 (CI l p))):=hG.atV oA (Fa _ _ _ oA);have c1:=hO.atV hk rfl;have f1:=hO.free;have HP:=Hd hp;clear hp;have hq:k%4=0\/k%4=1\/k%4=2\/k%4=3:=oA;rcases hq with hq|hq|hq|hq
       .have e2:(k:Int)%4=0:=oA;clear hq;go_wp2_with fail;clear c0 c1 f1;go_roundg (gk-1)
        case rel=>
         have:=HF3.out;refine ⟨k+1,oA,gnA,⟨r,nn,hG.other _ _ (by show g2≠H+1;omega)⟩,⟨z,hz,hZ.other _ _ (by show H≠H+1;omega)⟩,(hO.setV hk _).ofV fun j _=> ?_,hb.setCell (by show H<=H+1;omega) _⟩;exact qj l j k _ (by
          have E:=qk (CI l p) 24 16777216 rfl;have e3:k%4=0:=oA;rw [dgb,e3,<-HP.out]
          first|exact E|(rw [<-E];omega))
        case measure=>have:=HF3.out;omega
       .have e2:(k:Int)%4=1:=oA;clear hq;go_wp2_with fail;clear c0 c1 f1;go_roundg (gk-1)
        case rel=>
         have:=HF3.out;refine ⟨k+1,oA,gnA,⟨r,nn,hG.other _ _ (by show g2≠H+1;omega)⟩,⟨z,hz,hZ.other _ _ (by show H≠H+1;omega)⟩,(hO.setV hk _).ofV fun j _=> ?_,hb.setCell (by show H<=H+1;omega) _⟩;exact qj l j k _ (by
          have E:=qk (CI l p) 16 65536 rfl;have e3:k%4=1:=oA;rw [dgb,e3,<-HP.out]
          first|exact E|(rw [<-E];omega))
        case measure=>have:=HF3.out;omega
       .have e2:(k:Int)%4=2:=oA;clear hq;go_wp2_with fail;clear c0 c1 f1;go_roundg (gk-1)
        case rel=>
         have:=HF3.out;refine ⟨k+1,oA,gnA,⟨r,nn,hG.other _ _ (by show g2≠H+1;omega)⟩,⟨z,hz,hZ.other _ _ (by show H≠H+1;omega)⟩,(hO.setV hk _).ofV fun j _=> ?_,hb.setCell (by show H<=H+1;omega) _⟩;exact qj l j k _ (by
          have E:=qk (CI l p) 8 256 rfl;have e3:k%4=2:=oA;rw [dgb,e3,<-HP.out]
          first|exact E|(rw [<-E];omega))
        case measure=>have:=HF3.out;omega
       .have e2:(k:Int)%4=3:=oA;clear hq;go_wp2_with fail;clear c0 c1 f1;go_roundg (gk-1)
        case rel=>
         have:=HF3.out;refine ⟨k+1,oA,gnA,⟨r,nn,hG.other _ _ (by show g2≠H+1;omega)⟩,⟨z,hz,hZ.other _ _ (by show H≠H+1;omega)⟩,(hO.setV hk _).ofV fun j _=> ?_,hb.setCell (by show H<=H+1;omega) _⟩;exact qj l j k _ (by
          have E:=qk (CI l p) 0 1 rfl;have e3:k%4=3:=oA;rw [dgb,e3,<-HP.out]
          first|exact E|(rw [<-E];omega))
        case measure=>have:=HF3.out;omega
      .obtain rfl:k=32:=(by have:=HF3.out;omega);have tk:decide (((32:Nat):Int)<32)=false:=skA;replace hO:=hO.ofV (g:=fun j=>bv (dgb l j)) fun j hj=>if_pos hj;clear hG;go_wp2_with (first|refine am rfl 170 fG _ rfl rfl hO (ax _ _) ?_|refine aa rfl 170 fG (.tmp 2) _ (cells:=dgA l) rfl rfl rfl hZ (ax _ _) hz (du fun _ _=>rfl) ?_);refine cv rfl fG rfl (hZ.setRow _) (ax _ _) rfl ⟨rfl,?_⟩;rw [HH.out] at hb⊢;exact ag hb oA _
  .have t56:((n:Int) !=56)=true:=soA;have hzlt:z<zN L:=oA;have hzn2:zN L<64:=(by unfold zN;omega);clear hnn hf' hzn hz;go_wp2_with fail;clear hcl;refine (gM H g2 (pdl l z) [0] a n c _ 1 1 _ (hI.alloc _).hash (GB 0 rfl) rfl (by rw [jp];have:=HL.out;omega) (by simp;have:=hI.out.lt;omega)).mono ?_;rintro e w4 ⟨a4,n4,c4,rfl,hH4,hfr4,-⟩;have hI4:=(hI.alloc (.cells #[bv 0] 5)).write hHg hH4 hfr4;clear hI hH4 hfr4;go_wp2_with fail;go_roundg (gk-1)
   case rel=>exact ⟨z+1,a4,n4,c4,by have:=HF.out;rw [<-HL.out] at this⊢;omega,by rw [xV];exact hI4⟩
   case measure=>have:=HF.out;rw [<-HL.out] at this;omega
theorem Bl (l:List UInt8) (a:Option Addr) (len cap:Nat) (w:World) (hl:ah w a l) (hlen:l.length=len) (hm:len<140737488353000):
  Calls prog 197 #[.slice a len cap] w fun e w'=>e= .returned (.agg (dgA l))/\Below w.heap.size w w':=by
 have HL:=Hd hlen;clear hlen;go_enter func197,ntmps197;go_upto_region 1 with (fail);refine af (fun W0=>Blk W0 w.heap.size (vA 32 fun _=> .int .u8 0) 170/\Below w.heap.size w W0) ⟨Blk.new _ _ _,cL⟩ ?_;rintro w0 ⟨hR,hb⟩;obtain ⟨H,hH⟩:=Le w.heap.size;rw [<-hH] at hR hb⊢;have HH:=Hd hH;clear hH;go_wp2_with fail;refine (pu _).mono ?_;rintro e w1 ⟨g,rfl,hg,hB,hb1⟩;have hR1:=hR.old hb1;have hb01:Below H w w1:=hb.trans (hb1.mono (by have:=hR.lt;omega));have hHg:H<g:=(by have:=hR.lt;omega);clear hR hb hg hb1;go_wp2_with fail;refine (gM H g [] l none 0 0 a len cap _ (cG.nil hB H) (hl.below (HH.out▸hb01)) HL.out soA (by have:=hR1.lt;omega)).mono ?_;rintro e w2 ⟨a2,n2,c2,rfl,hH2,hfr,-⟩;have hR2:=hfr.blk hR1 oA (by simp [bE]);have hb02:Below H w w2:=hb01.trans (hfr.below oA (by simp [bE]) (by have:=hR1.lt;omega));rw [Wf] at hH2;clear hR1 hb01 hfr hB;go_wp2_with fail;refine (sZ H g l a2 n2 c2 _ hH2 (by rw [HL.out];exact hm)).mono ?_;rintro e w3 ⟨rfl,hb3⟩;have hR3:=hR2.old hb3;go_wp2_with (refine aa rfl 170 fG (.tmp 2) _ (cells:=dgA l) rfl rfl rfl hR3 (ax _ _) (ax _ _) (du fun _ _=>rfl) ?_);refine cv rfl fG rfl (hR3.setRow _) (ax _ _) rfl ⟨rfl,?_⟩;have hb03:=hb02.trans (hb3.mono (by have:=hR2.lt;omega));rw [HH.out] at hb03⊢;exact ag hb03 oA _
theorem qK (d:Nat) (t e:TypeId) {P:Program} (n:Nat) (ht:P.underlying t=some (.array n e)) (he:P.underlying e=some (.int .u8)) (hsz:∀w,(sizeOf e).run P w= .ok 1 w)
  (s u:Nat->UInt8) (w:World):
  (Op.equalIn (d+2) t (.agg (vA n fun i=>bv (s i))) (.agg (vA n fun i=>bv (u i)))).run P w= .ok ((List.range n).all fun i=>s i==u i) w:=by
 rw [List.range_eq_range',Op.equalIn];simp only [Wm,Vw ht,WT,hsz,Std.Legacy.Range.forIn_eq_forIn_range',Std.Legacy.Range.size,Nat.sub_zero,Xe,Nat.div_one];have hl:∀i∈List.range' 0 n 1,i<n:=fun i hi=>(by simpa using (List.mem_range'_1.1 hi).2);generalize List.range' 0 n 1=l at hl⊢
 induction l with
 |nil=>simp
 |cons i l ih=>
  have hi:i<n:=hl i skA;have px:(part e (vA n fun i=>bv (s i)) (i*1)).run P w= .ok (.int .u8 (U8 (s i))) w:=by
   simp [part,isAgg,Vw he,lW _ hi,bv]
  have py:(part e (vA n fun i=>bv (u i)) (i*1)).run P w= .ok (.int .u8 (U8 (u i))) w:=by
   simp [part,isAgg,Vw he,lW _ hi,bv]
  have pe:(Op.equalIn (d+1) e (.int .u8 (U8 (s i))) (.int .u8 (U8 (u i)))).run P w= .ok (s i==u i) w:=by
   rw [run_equalIn_int w d e .u8 .u8 _ _ he,Dp]
  simp only [List.forIn_cons,Wm,px,py,pe,WT,List.all_cons];cases hb:(s i==u i)
  .simp
  .simp only [Bool.not_true,Bool.false_eq_true,if_false,Sem.run_pure,WT,Vr];exact ih fun j hj=>hl j (by simp [hj])
end
section
open Go.RowKit
def dgl (l:List UInt8):List UInt8:=(List.range 32).map (dgb l)
def bkey (k:List UInt8) (i:Nat):UInt8:=if 64<k.length then (if i<32 then dgb k i else 0) else k.getD i 0
def sK (f:Nat->UInt8) (x:UInt8):List UInt8:=(List.range 64).map fun i=>f i^^^x
def hin (k b:List UInt8):List UInt8:=sK (bkey k) 54++b
def uR (k b:List UInt8):List UInt8:=sK (bkey k) 92++dgl (hin k b)
def mcA (k b:List UInt8):Array Value:=dgA (uR k b)
theorem cU (l:List UInt8):(dgl l).length=32:=by simp [dgl]
theorem cK (f:Nat->UInt8) (x:UInt8):(sK f x).length=64:=by simp [sK]
theorem wy (l:List UInt8):(l.map bv).toArray=vA l.length fun i=>bv (l.getD i 0):=by
 refine Hf skA fun i hi=> ?_;simp [hi]
theorem Oo (n:Nat) (f:Nat->UInt8):vL n (fun i=>bv (f i))=((List.range n).map f).map bv:=by simp [vL]
theorem oT {P:Program} {o:Oper} {a:Act} {w:World} {ops:Array Oper} {rest:List Oper} {Q:Exit->Act->World->Prop} (hgd:o.guard=none) (d s:Operand) (dT sT:TypeId)
  (ho:o.op= .call {callee:= .builtin .copy,args:= #[d,s],argTypes:= #[dT,sT]}) {elem:TypeId} (hu:P.underlying dT=some (.slice elem)) (hsz:(P.info? elem).map (·.size)=some 1)
  {ad:Addr} {n c m:Nat} (hd:a.eval d= .slice (some ad) n c) (hs:a.eval s= .slice none 0 m)
  (h:wpList P ops Q rest (a.put o.dst (goInt 0)) w):wpList P ops Q (o::rest) a w:=by
 refine XO hgd fun K hK=> ?_;have hrun:(Builtin.copy_ #[dT,sT] o.type #[.slice (some ad) n c,.slice none 0 m]).run P w= .ok (goInt 0) w:=by
  simp [Builtin.copy_,Vw hu,et hsz,Builtin.lenOf,Builtin.firstCells,storeCells]
 unfold Oper.wp;simp [execOp,ho,resolve,invoke,builtin,hd,hs,hrun,Result.andThen];exact hK _ _ h
theorem jO:lR prog 257 64:=⟨⟨_,underlying257,rfl⟩,krA⟩
theorem AA:(Tryz.prog.info? 257).bind (·.zero)=some (.agg (vA 64 fun _=> .int .u8 0)):=by kernel_rfl
theorem Gj:Tryz.prog.arrayLen 257=64:=by kernel_rfl
theorem CJ:Tryz.prog.elem 257=5:=by kernel_rfl
theorem LV:Tryz.prog.underlying 257=some (.array (Tryz.prog.arrayLen 257) (Tryz.prog.elem 257)):=by rw [Gj,CJ];exact underlying257
theorem GH (b:Nat) (W:World):(Instr.sliceAt 257 (.pointer (some ⟨b,0,none⟩)) none none none).run prog W= .ok (.slice (some ⟨b,0,none⟩) 64 64) W:=by
 rw [WQ W _ _ LV,CJ,et jk,Gj];simp [slicedAt];rfl
theorem Cf:Tryz.prog.arrayLen 170=32:=by kernel_rfl
theorem wR:Tryz.prog.elem 170=5:=by kernel_rfl
theorem GF:Tryz.prog.underlying 170=some (.array (Tryz.prog.arrayLen 170) (Tryz.prog.elem 170)):=by rw [Cf,wR];exact underlying170
theorem rR (b:Nat) (W:World):(Instr.sliceAt 170 (.pointer (some ⟨b,0,none⟩)) none none none).run prog W= .ok (.slice (some ⟨b,0,none⟩) 32 32) W:=by
 rw [WQ W _ _ GF,wR,et jk,Cf];simp [slicedAt];rfl
theorem rE {w:World} {b:Nat} {l:List UInt8} (h:Blk w b (dgA l) 170):ah w (some ⟨b,0,none⟩) (dgl l):=by
 have e:(dgl l).map bv=vL 32 fun i=>bv (dgb l i):=(by rw [Oo];rfl);unfold ah;rw [e];exact aw.mk fun j hj=>by
  rw [cM] at hj;rw [VS,h.rule,dgA,lW _ hj];simp [vL]
theorem zJ (l:List UInt8) (a:Option Addr) (len cap:Nat) (w:World) (hm:ah w a l) (hl:l.length=len) (hmax:len<140737488353000):
  Calls prog 184 #[.slice a len cap] w fun e w'=>e= .returned (.agg (vA 64 fun i=>bv (bkey l i)))/\Below w.heap.size w w':=by
 obtain ⟨H,hH⟩:=Le w.heap.size;rw [<-hH];have HL:=Hd hl;clear hl;have hz1:=iQ AA;have q1:=GH H;have hB0:=Blk.new w (vA 64 fun _=> .int .u8 0) 257;by_cases hbig:64<len
 .have tI:decide ((64:Int)<(len:Int))=true:=soA;have tt:decide (64<len)=true:=(by simpa using hbig);go_enter func184,ntmps184;go_upto_region 1 with fail;clear hz1;rw [<-hH] at hB0⊢;refine af (fun W0=>Blk W0 H (vA 64 fun _=> .int .u8 0) 257/\ah W0 a l/\Below H w W0) ⟨hB0,hm.alloc _,by rw [hH];exact cL⟩ ?_;have HH:=Hd hH;clear hB0 hm hH;rintro w1 ⟨hB,hm,hb⟩;go_wp2_with fail;refine (Bl l a len cap _ hm HL.out hmax).mono ?_;rintro e w2 ⟨rfl,hb2⟩;have hB2:=hB.old hb2;have hlt:=hB.lt;have hb02:=hb.trans (hb2.mono oA);clear hm hB hb;go_upto_region 3 with (refine aa rfl 170 fG (.tmp 3) _ (cells:=dgA l) rfl rfl rfl (Blk.new _ _ _) (ax _ _) rfl (du fun _ _=>rfl) ?_);obtain ⟨K,hK⟩:=Le w2.heap.size;have hK0:=Blk.new w2 (vA 32 fun _=> .int .u8 0) 170;have hHK:H<K:=(by have:=hb2.size;omega);rw [<-hK] at hK0⊢;refine af (fun W0=>Blk W0 H (vA 64 fun _=> .int .u8 0) 257/\Blk W0 K (dgA l) 170/\Below H w W0) ⟨(hB2.alloc _).setRow_other _ _ oA,hK0.setRow _,ag (hb02.alloc oA _) oA _⟩ ?_;clear hB2 hK0 hK hb02 hb2 hlt;rintro w3 ⟨hB,hKd,hb⟩;have q2:=rR K;have hrow:=aw.all (rE hKd);have hsp:cD (vA 64 fun _=>Value.int .u8 0) 0 ((dgl l).map bv).toArray=vA 64 fun i=>bv (bkey l i):=by
   rw [wy,kg _ _ (by rw [cU];omega),cU];refine AL fun i hi=> ?_;have hbk:bkey l i=if i<32 then dgb l i else 0:=(by rw [bkey,if_pos (by rw [HL.out];exact hbig)]);rw [hbk];by_cases e:i<32
   .rw [if_pos ⟨oA,oA⟩,if_pos e,VX];simp [dgl,e]
   .rw [if_neg oA,if_neg e];rfl
  have HSP:=Hd hsp;clear hsp;go_upto_region 5 with (refine kf rfl (.tmp 10) (.tmp 11) 22 22 rfl underlying22 jk rfl rfl hB (cs:=(dgl l).map bv) (by rw [lmA,cU];rfl) hrow (by rw [lmA,ax,cU];omega) (cO _) ?_);rw [HSP.out];refine af (fun W0=>Blk W0 H (vA 64 fun i=>bv (bkey l i)) 257/\Below H w W0) ⟨hB.setRow _,ag hb (Lt _) _⟩ ?_;clear hB hb hrow hKd q2;rintro w2 ⟨hB,hb⟩;go_wp2_with (first|refine am rfl 257 jO _ rfl rfl hB (ax _ _) ?_|refine aa rfl 257 jO (.tmp 2) _ (cells:=vA 64 fun i=>bv (bkey l i)) rfl rfl rfl hB (ax _ _) (ax _ _) (du fun _ _=>rfl) ?_);exact cv rfl jO rfl (hB.setRow _) (ax _ _) rfl ⟨rfl,ag hb (Lt _) _⟩
 .have tI:decide ((64:Int)<(len:Int))=false:=soA;have tt:decide (64<len)=false:=(by simpa using hbig);go_enter func184,ntmps184;go_upto_region 1 with fail;clear hz1;rw [<-hH] at hB0⊢;refine af (fun W0=>Blk W0 H (vA 64 fun _=> .int .u8 0) 257/\ah W0 a l/\Below H w W0) ⟨hB0,hm.alloc _,by rw [hH];exact cL⟩ ?_;have HH:=Hd hH;clear hB0 hm hH;rintro w1 ⟨hB,hm,hb⟩;cases a with
  |none=>
   have hl0:l=[]:=by
    cases hl:l with
    |nil=>rfl
    |cons x r=>subst hl;obtain ⟨b,o,he,_⟩:=hm 0 skA;cases he
   subst hl0;obtain rfl:len=0:=(by have:=HL.out;simpa using this.symm);go_wp2_with (first|refine oT rfl (.tmp 10) (.tmp 11) 22 22 rfl underlying22 jk rfl rfl ?_|refine am rfl 257 jO _ rfl rfl hB (ax _ _) ?_|refine aa rfl 257 jO (.tmp 2) _ (cells:=vA 64 fun _=> .int .u8 0) rfl rfl rfl hB (ax _ _) (ax _ _) (du fun _ _=>rfl) ?_);refine cv rfl jO rfl ((hB.setRow _).ofV (g:=fun i=>bv (bkey [] i)) fun i _=> ?_) (ax _ _) rfl ⟨rfl,ag hb (Lt _) _⟩;simp [bkey,bv,U8]
  |some ad=>
   have hlen64:l.length<=64:=(by have:=HL.out;omega);have hcs:(l.map bv).length=Nat.min len 64:=by
    rw [lmA,HL.out];exact (Nat.min_eq_left oA).symm
   have hrow:=aw.all hm;have hsp:cD (vA 64 fun _=>Value.int .u8 0) 0 (l.map bv).toArray=vA 64 fun i=>bv (bkey l i):=by
    rw [wy,kg _ _ oA];refine AL fun i hi=> ?_;have hbk:bkey l i=l.getD i 0:=(by rw [bkey,if_neg oA]);rw [hbk];by_cases e:i<l.length
    .rw [if_pos ⟨oA,oA⟩];rfl
    .rw [if_neg oA,VX,WL oA];rfl
   have HSP:=Hd hsp;clear hsp hlen64;go_upto_region 5 with (refine kf rfl (.tmp 10) (.tmp 11) 22 22 rfl underlying22 jk rfl rfl hB (cs:=l.map bv) hcs hrow (by rw [lmA,ax,HL.out];omega) (cO _) ?_);rw [HSP.out];refine af (fun W0=>Blk W0 H (vA 64 fun i=>bv (bkey l i)) 257/\Below H w W0) ⟨hB.setRow _,ag hb (Lt _) _⟩ ?_;clear hB hb hm hrow hcs;rintro w2 ⟨hB,hb⟩;go_wp2_with (first|refine am rfl 257 jO _ rfl rfl hB (ax _ _) ?_|refine aa rfl 257 jO (.tmp 2) _ (cells:=vA 64 fun i=>bv (bkey l i)) rfl rfl rfl hB (ax _ _) (ax _ _) (du fun _ _=>rfl) ?_);exact cv rfl jO rfl (hB.setRow _) (ax _ _) rfl ⟨rfl,ag hb (Lt _) _⟩
def Wi1 (w:World) (H:Nat) (f:Nat->UInt8) (x:UInt8) (g:Nat) (i:Value) (wr:World):Prop:=
 ∃t:Nat,g+t=64/\i= .int .i64 (t:Int)/\Blk wr H (vA 64 fun j=>bv (if j<t then f j^^^x else f j)) 257/\Below H w wr
attribute [local go_sem] lN yf
theorem uL (f:Nat->UInt8) (x:UInt8) (z:Int) (hz:z=U8 x) (w:World):
  Calls prog 186 #[.agg (vA 64 fun i=>bv (f i)),.int .u8 z] w fun e w'=>∃g,e= .returned (.slice (some ⟨g,0,none⟩) 64 64)/\w.heap.size<=g/\ah w' (some ⟨g,0,none⟩) (sK f x)/\Below w.heap.size w w':=by
 subst hz;obtain ⟨H,hH⟩:=Le w.heap.size;rw [<-hH];have q1:=GH H;have hB0:=Blk.new w (vA 64 fun i=>bv (f i)) 257;go_enter func186,ntmps186;go_upto_region 1 with fail;rw [<-hH] at hB0⊢;refine af (fun W0=>Blk W0 H (vA 64 fun i=>bv (f i)) 257/\Below H w W0) ⟨hB0,by rw [hH];exact cL⟩ ?_;have HH:=Hd hH;clear hB0 hH;rintro w1 ⟨hB,hb⟩;go_wp2_with fail;go_loopg [5,6] 64 (fun g _ i wr=>Wi1 w H f x g i wr)
 case atStart=>exact ⟨0,oA,rfl,hB.ofV fun j _=>by rw [if_neg oA],hb⟩
 case round=>
  clear hB hb;obtain ⟨t,hf,rfl,hB,hb⟩:=hrel;by_cases ht:t<64
  .have tt:decide ((t:Int)<64)=true:=soA;have htI:(t:Int)<64:=oA;have c0:wr.cell? ⟨H,t,none⟩=some (.int .u8 (U8 (f t))):=hB.atV ht (by rw [if_neg oA];rfl);have f0:=hB.free;have HF:=Hd hf;clear hf;go_wp2_with fail;clear c0 f0;go_roundg (gk-1)
   case rel=>
    have hf:=HF.out;refine ⟨t+1,oA,gnA,(hB.setV ht _).ofV fun j _=> ?_,hb.setCell (by show H<=H;omega) _⟩;by_cases e:j=t
    .subst e;rw [if_pos rfl,if_pos oA];rfl
    .rw [if_neg e];by_cases e2:j<t
     .rw [if_pos e2,if_pos oA]
     .rw [if_neg e2,if_neg oA]
   case measure=>have hf:=HF.out;omega
  .obtain rfl:t=64:=oA;have tt:decide (((64:Nat):Int)<64)=false:=skA;clear hf;go_wp2_with fail;go_ret;refine ⟨H,rfl,Lt _,?_,hb⟩;have hB2:=hB.ofV (g:=fun j=>bv (f j^^^x)) fun j hj=>(by rw [if_pos hj]);refine aw.mk fun j hj=> ?_;rw [lmA,cK] at hj;rw [VS,hB2.atV hj rfl];simp [sK]
end
end Go.Proofs.YtioigihakjlopaaGreat

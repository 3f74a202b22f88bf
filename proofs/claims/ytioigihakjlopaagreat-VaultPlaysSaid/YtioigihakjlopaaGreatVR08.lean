import Derived.Test.YtioigihakjlopaaGreatVR07
import Derived.Laws.StructEq
namespace Go.Proofs.YtioigihakjlopaaGreat
open Go.Proofs.Tryz
set_option linter.unusedVariables false
set_option linter.unusedSimpArgs false
set_option maxHeartbeats 16000000
set_option maxRecDepth 100000
section
open Go.RowKit
theorem ME:Tryz.prog.arrayLen 268=64:=by kernel_rfl
theorem Ig:Tryz.prog.elem 268=196:=by kernel_rfl
theorem Qs:Tryz.prog.underlying 268=some (.array (Tryz.prog.arrayLen 268) (Tryz.prog.elem 268)):=by rw [ME,Ig];exact underlying268
theorem all8 (b o:Nat) (W:As):(Instr.sliceAt 267 (.pointer (some ⟨b,o,none⟩)) none none none).run prog W= .ok (.slice (some ⟨b,o,none⟩) 8 8) W:=by
 rw [WD W _ _ Qr,Gz,eI kh,Lk];simp [slicedAt,WA]
theorem Qt (b o:Nat) (W:As):(Instr.sliceAt 268 (.pointer (some ⟨b,o,none⟩)) none none none).run prog W= .ok (.slice (some ⟨b,o,none⟩) 64 64) W:=by
 rw [WD W _ _ Qs,Ig,eI kh,ME];simp [slicedAt,WA]
theorem Kh:Lm.map wv=vL 8 fun j=>wv (hwd j):=rfl
theorem JX:Ll.map wv=vL 64 fun j=>wv (kwd j):=rfl
theorem Jk (w:As):Calls prog 195 #[.int .i64 8,.bool false] w fun e w'=>∃B c,e= .returned (.slice (some B) 8 c)/\av w' (some B) (vL 8 fun j=>wv (hwd j))/\Below w.heap.size w w':=
 (vp 8 false w oA).mono fun e w' ⟨k,a,c,C,D,A,E⟩=>by
  rw [PW C,Kh] at A;obtain ⟨b,o,rfl,_⟩:=A.row 0 (by rw [df];omega);exact ⟨_,c,D,A.row,E⟩
theorem Jj (w:As):Calls prog 195 #[.int .i64 64,.bool true] w fun e w'=>∃B c,e= .returned (.slice (some B) 64 c)/\av w' (some B) (vL 64 fun j=>wv (kwd j))/\Below w.heap.size w w':=
 (vp 64 true w oA).mono fun e w' ⟨k,a,c,C,D,A,E⟩=>by
  rw [PV C,JX] at A;obtain ⟨b,o,rfl,_⟩:=A.row 0 (by rw [df];omega);exact ⟨_,c,D,A.row,E⟩
theorem av.all {w:As} {A:Addr} {vs:AT} (h:av w (some A) vs):∀j v,vs[j]? =some v->w.cell? (A.add j)=some v:=fun j v B=>by
 obtain ⟨C,rfl⟩:=Vm.1 B;obtain ⟨b,o,e,D⟩:=h j C;obtain rfl:=Ww e;rw [WA];exact D
theorem Hf {n:Nat} {f:Nat->Value} (h:∀i,(f i).oneCell'=true):∀v∈vL n f,v.oneCell'=true:=fun v A=>by
 obtain ⟨i,_,rfl⟩:=VH.1 A;exact h i
theorem Kf (h:Nat->BitVec 32) (a:Lt) (n c:Nat) {N:Int} (i:Nat):(hcs h (.slice a n c) (.int .u64 N) i).oneCell'=true:=by
 unfold hcs;by_cases A:i<8
 .rw [Vz A];rfl
 .rw [VV A];by_cases B:i=8
  .rw [Vz B];rfl
  .rw [VV B];by_cases C:i=9
   .rw [Vz C];rfl
   .rw [VV C];rfl
theorem CH (g:Nat) (f:Nat->Value) (w:As) (A:Blk w g (vA 74 f) 270) (J:∀j,j<64->f (10+j)=wv (kwd j)):
  Calls prog 196 #[.pointer (some ⟨g,0,none⟩)] w fun e w'=>e= .returned (.tuple #[])/\Blk w' g (vA 74 (hcs hwd (.slice none 0 0) (.int .u64 0))) 270/\w.grownBy w' (some g):=by
 have P:=Hd J;clear J;have R:=all8 g 0;go_enter func196,ntmps196;go_wp2_with fail;refine cO g (.step 0 (.step 1 (.step 2 (.step 3 (.step 4 (.step 5 .done)))))) krA krA cdA ?_
 repeat refine txA ?_
 refine am rfl rfl rfA (fun K B=> ?_);go_wp2_with fail;refine (Jk _).mono ?_;rintro e w1 ⟨V,c,rfl,G,C⟩;go_wp2_with fail;refine B _ _ (But.of C) ?_;clear B K R;have D:Blk w1 g (vA 74 f) 270:=A.drew.old C;have I:w.grownBy w1 (some g):=Db (jg (Wd w _)) C;refine am rfl rfl rfA (fun K B=> ?_);refine gY (.tmp 7) (.tmp 8) 271 271 rfl underlying271 kh rfl rfl D (cs:=vL 8 fun j=>wv (hwd j)) (by rw [df];rfl) G.all (by rw [df,ay];omega) (Hf fun _=>rfl) ?_;refine B _ _ (But.setRow _ _) ?_;clear B K;refine aq ?_;rw [show (vL 8 fun j=>wv (hwd j)).toArray=vA 8 fun j=>wv (hwd j) from rfl,kS _ _ oA];refine kr (fun L=>Blk L g (vA 74 fun j=>if 0<=j/\j<0+8 then wv (hwd (j-0)) else f j) 270/\w.grownBy L (some g)) ⟨D.setRow _,qy I _⟩ ?_;clear A D I C G;rintro M ⟨A,S⟩;have T:M.cell? ⟨g,8,none⟩=some (f 8):=A.atV oA (VV oA);have U:M.cell? ⟨g,9,none⟩=some (f 9):=A.atV oA (VV oA);have O:=A.free;go_wp2_with fail;clear T U O;go_end0;refine ⟨rfl,?_,gv (gv S 8 _) 9 _⟩;refine ((A.setV oA _).setV oA _).ofV fun j W=> ?_;unfold hcs;by_cases E:j=9
 .subst E;rfl
 .rw [VV E];by_cases F:j=8
  .subst F;rfl
  .rw [VV F];by_cases N:j<8
   .rw [Vz ⟨oA,oA⟩,Vz N];rfl
   .rw [VV oA,VV N,VV F,VV E];have:=P.out (j-10) oA;rwa [show 10+(j-10)=j by omega] at this
def ji (j:Nat):Value:=if j<8 then .int .u32 0 else if j=8 then .slice none 0 0 else if j=9 then .int .u64 0 else .int .u32 0
theorem ML:Tryz.prog.built 270 []=some (vA 74 ji):=by kernel_rfl
def Lg (w:As) (e:Ending) (w':As):Prop:=
 ∃g,e= .returned (.pointer (some ⟨g,0,none⟩))/\w.heap.size<=g/\Blk w' g (vA 74 (hcs hwd (.slice none 0 0) (.int .u64 0))) 270/\Below w.heap.size w w'
theorem cW.nil {w:As} {g:Nat} (h:Blk w g (vA 74 (hcs hwd (.slice none 0 0) (.int .u64 0))) 270) (B:Nat):cW w B g [] none 0 0:=⟨h,Mid.nil' _ _ _,skA⟩
theorem qb (w:As):Calls prog 183 #[] w (Lg w):=by
 obtain ⟨g,I⟩:=At w.heap.size;have A:=Blk.new w (vA 74 ji) 270;rw [<-I] at A;have E:=Hd I;have N:(Tryz.prog.built 270 []).getD #[]=vA 74 ji:=(by rw [ML];rfl);have R:=Hd N;clear I N;go_enter func183,ntmps183;go_wp2_with (refine wpList_build rfl 270 #[] rfl (by simp [ML]) ?_);rw [R.out,<-E.out];have M:Below g w (w.alloc (.cells (vA 74 ji) 270)):=(VW _ _).alloc (by rw [E.out];exact VU _) _;refine ag (fun B=>Blk B g (vA 74 ji) 270/\Below g w B) ⟨A,M⟩ ?_;clear A M;rintro w0 ⟨A,F⟩;have S:=Qt g 10;refine cO g (.step 0 (.step 1 (.step 2 (.step 3 (.step 4 (.step 5 .done)))))) krA krA cdA ?_
 repeat refine txA ?_
 refine am rfl rfl rfA (fun K C=> ?_);go_wp2_with fail;refine (Jj _).mono ?_;rintro e w1 ⟨T,c,rfl,J,D⟩;go_wp2_with fail;refine C _ _ (But.of D) ?_;clear C K S;have G:Blk w1 g (vA 74 ji) 270:=A.drew.old D;have L:Below g w w1:=F.drew.trans (D.mono (by have:=A.lt;show g<=w0.heap.size;omega));refine am rfl rfl rfA (fun K C=> ?_);refine gY (.tmp 7) (.tmp 8) 271 271 rfl underlying271 kh rfl rfl G (cs:=vL 64 fun j=>wv (kwd j)) (by rw [df];rfl) J.all (by rw [df,ay];omega) (Hf fun _=>rfl) ?_;refine C _ _ (But.setRow _ _) ?_;clear C K;refine aq ?_;rw [show (vL 64 fun j=>wv (kwd j)).toArray=vA 64 fun j=>wv (kwd j) from rfl,kS _ _ oA];refine kr (fun B=>Blk B g (vA 74 fun j=>if 10<=j/\j<10+64 then wv (kwd (j-10)) else ji j) 270/\Below g w B) ⟨G.setRow _,ak L (VU _) _⟩ ?_;clear A G F D L J;rintro U ⟨A,F⟩;go_wp2_with fail;refine (CH g _ _ A (fun j V=>by rw [Vz ⟨oA,oA⟩,YN])).mono ?_;rintro e w3 ⟨rfl,O,P⟩;go_wp2_with fail;go_ret;refine ⟨g,rfl,by rw [E.out];exact VU _,O,?_⟩;rw [<-E.out];exact nZ F (by have:=A.lt;omega) P (VU _)
def GX (w:As) (l:Le) (n:Nat) (e:Ending) (w':As):Prop:=
 ∃g a c,e= .returned (.pointer (some ⟨g,0,none⟩))/\w.heap.size<=g/\cW w' w.heap.size g l a n c/\Below w.heap.size w w'
theorem zP (B g:Nat) (l:Le) (a:Lt) (n c:Nat) (w:As) (A:cW w B g l a n c):
  Calls prog 187 #[.pointer (some ⟨g,0,none⟩)] w (GX w l n):=by
 have M:=A.hash;have F:=A.row;have Z:=A.lt;have t:n<=l.length:=(by have:=F.len;rw [<-this];simp);have b:=jq (show (Tryz.prog.info? 270).bind (·.zero)=some (.agg (vA 74 ji)) by kernel_rfl);have q:=Hd A;clear A;go_enter func187,ntmps187;go_upto_region 4 with (first|refine ap rfl 270 MK _ rfl rfl M (ay _ _) ?_|refine ae rfl 270 MK (.tmp 3) _ rfl rfl rfl (Blk.new _ _ _) (ay _ _) (ay _ _) (dF fun i _=>Kf _ _ _ _ i) ?_);clear b;obtain ⟨G,C⟩:=At w.heap.size;have J:=Blk.new w (vA 74 ji) 270;rw [<-C] at J⊢;have E:=Hd C;have y:g<G:=(by rw [C];exact M.lt);have P:Below G w ((w.alloc (.cells (vA 74 ji) 270)).setRow G (vA 74 (hcs (stt l (l.length/64)) (.slice a n c) (.int .u64 (l.length:Int))))):=ak ((VW _ _).alloc oA _) (VU _) _;have R:((w.alloc (.cells (vA 74 ji) 270)).setRow G (vA 74 (hcs (stt l (l.length/64)) (.slice a n c) (.int .u64 (l.length:Int))))).heap.size=G+1:=(by simp [World.setRow,<-C]);refine ag (fun N=>Blk N G (vA 74 (hcs (stt l (l.length/64)) (.slice a n c) (.int .u64 (l.length:Int)))) 270/\Below G w N/\N.heap.size=G+1) ⟨J.setRow _,P,R⟩ ?_;clear J P R M C;rintro w1 ⟨r,S,T⟩;have I:Below w.heap.size w w1:=(by rw [<-E.out];exact S);have W:=av.below F.read I;have d:w1.cell? ⟨g,8,none⟩=some (.slice a n c):=(q.out.hash.old I).atV oA (yd _ _ _);have A0:g<w1.heap.size:=oA;have O:=Hd T;have X:Mid w1 G 5 (some ⟨w1.heap.size,0,none⟩) 0 0 []:=⟨rfl,VU _,mxA,(fun h=>by cases h),fun h=>by omega⟩;clear T I;go_wp2_with (at_builtin;refine dq rfl (.tmp 9) (.tmp 13) 22 rfl dS rfl (X.alloc _) rfl (W.alloc _) (by rw [F.len]) (by intro u s;obtain ⟨_,_,rfl⟩:=VH.1 s;rfl) mxA oA (by simp;have:=O.out;omega) ?_);intro U c2 V e L f;have m:bI (some (⟨w1.heap.size,0,none⟩:Addr)) 0=none:=rfl;rw [m] at L f;have D:=(r.alloc (.cells #[] 5)).grown L skA;have o:Below G w V:=(S.alloc (by have:=O.out;omega) _).grown L (by simp;have:=O.out;omega) skA;have Y:V.cell? ⟨G,8,none⟩=some (.slice a n c):=D.atV oA (yd _ _ _);have p:=D.free;clear d;go_wp2_with fail;clear Y p;go_ret;refine ⟨G,U,c2,skA,by rw [<-E.out];exact VU _,⟨?_,?_,Z⟩,?_⟩
 .refine (D.setV oA _).ofV fun j _=> ?_;rw [ur]
 .rw [<-E.out];have:=e.setCell D dcA 8 (.slice U (0+n) c2);simpa using this
 .rw [<-E.out];exact o.setCell (VU _) _
def pdl (l:Le) (z:Nat):Le:=l++ [128]++List.replicate z 0
def zN (n:Nat):Nat:=(119-n%64)%64
def jm (n i:Nat):UInt8:=⟨BitVec.ofNat 8 (n/2^(56-8*i))⟩
def eY (n:Nat):Le:=(List.range 8).map (jm n)
def nu (l:Le):Le:=pdl l (zN l.length)++eY (l.length*8)
def Ea (l:Le):Nat->BitVec 32:=stt (nu l) ((nu l).length/64)
def dgb (l:Le) (i:Nat):UInt8:=⟨(Ea l (i/4)>>>(24-8*(i%4))).setWidth 8⟩
def dgA (l:Le):AS:=vA 32 fun i=>bv (dgb l i)
theorem jN (l:Le) (z:Nat):(pdl l z).length=l.length+1+z:=by simp [pdl];omega
theorem zn (l:Le) (z:Nat):pdl l (z+1)=pdl l z++ [0]:=by simp [pdl,List.replicate_succ']
theorem aM (n:Nat):(eY n).length=8:=by rw [eY,lmA,Yd]
theorem MD:Tryz.prog.arrayLen 260=8:=by kernel_rfl
theorem Ie:Tryz.prog.elem 260=5:=by kernel_rfl
theorem Qq:Tryz.prog.underlying 260=some (.array (Tryz.prog.arrayLen 260) (Tryz.prog.elem 260)):=by rw [MD,Ie];exact underlying260
theorem Nr (b:Nat) (W:As):(Instr.sliceAt 260 (.pointer (some ⟨b,0,none⟩)) none none none).run prog W= .ok (.slice (some ⟨b,0,none⟩) 8 8) W:=by
 rw [WD W _ _ Qq,Ie,eI jI,MD];simp [slicedAt];rfl
theorem ks (n:Nat) (L:Nat) (i:Nat) (p:Int) (A:n=L*8) (B:p=((2^(56-8*i):Nat):Int)):(L:Int)*8/p%256=U8 (jm n i):=by
 subst A;have e:U8 (jm (L*8) i)=(((L*8/2^(56-8*i))%2^8:Nat):Int):=by
  show (((BitVec.ofNat 8 (L*8/2^(56-8*i))).toNat:Nat):Int)=_;rw [Wi]
 rw [e,B];generalize 2^(56-8*i)=P;rw [Int.natCast_emod,Int.natCast_ediv,Int.natCast_mul];rfl
theorem cW.alloc {w:As} {B g:Nat} {l:Le} {a:Lt} {n c:Nat} (h:cW w B g l a n c) (o:Obj):cW (w.alloc o) B g l a n c:=⟨h.hash.alloc _,h.row.alloc _,h.lt⟩
theorem cW.left {w:As} {B g:Nat} {l:Le} {a:Lt} {n c:Nat} (h:cW w B g l a n c):n=l.length%64:=by
 have:=h.row.len;rw [<-this];simp;omega
theorem cW.cell {w:As} {B g:Nat} {l:Le} {a:Lt} {n c:Nat} (h:cW w B g l a n c):w.cell? ⟨g,8,none⟩=some (.slice a n c):=h.hash.atV oA (yd _ _ _)
theorem cW.setCell {w:As} {B g:Nat} {l:Le} {a:Lt} {n c:Nat} (h:cW w B g l a n c) {T:Nat} {cs:AS} {t:TypeId} (A:Blk w T cs t) (C:t≠270) (D:t≠5) (i:Nat) (v:Value):cW (w.setCell ⟨T,i,none⟩ v) B g l a n c:=
 ⟨h.hash.other _ _ (Blk.ne h.hash A (Vl C)),h.row.setCell A D _ _,h.lt⟩
theorem cW.setRow {w:As} {B g:Nat} {l:Le} {a:Lt} {n c:Nat} (h:cW w B g l a n c) {T:Nat} {cs:AS} {t:TypeId} (A:Blk w T cs t) (D:t≠270) (E:t≠5) (C:AS):cW (w.setRow T C) B g l a n c:=
 ⟨h.hash.setRow_other _ _ (Blk.ne h.hash A (Vl D)),h.row.setRow A E _,h.lt⟩
theorem cW.old {w w':As} {B g:Nat} {l:Le} {a:Lt} {n c:Nat} (h:cW w B g l a n c) (A:Below w.heap.size w w'):cW w' B g l a n c:=⟨h.hash.old A,h.row.old A,h.lt⟩
structure BB (w:As) (H g:Nat) (l:Le) (a:Lt) (n c:Nat) (wr:As):Prop where
 hash:cW wr H g l a n c
 res:∃z:AS,z.size=32/\Blk wr H z 170
 out:Blk wr (H+1) (vA 32 fun _=> .int .u8 0) 170
 below:Below H w wr
section
variable {w:As} {H g:Nat} {l:Le} {a:Lt} {n c:Nat} {wr wq:As}
theorem BB.alloc (h:BB w H g l a n c wr) (o:Obj):BB w H g l a n c (wr.alloc o):=
 ⟨h.hash.alloc o,by obtain ⟨z,A,B⟩:=h.res;exact ⟨z,A,B.alloc o⟩,h.out.alloc o,h.below.alloc (by have:=h.out.lt;omega) o⟩
theorem BB.rowNe (h:BB w H g l a n c wr) {b:Nat} {cs:AS} {t:TypeId} (B:Blk wr b cs t) (C:t≠5):bI a c≠some b:=fun e=>by
 obtain ⟨_,_,D,A⟩:=h.hash.row.lt e;exact Blk.ne A B (Vl C) rfl
theorem BB.write (h:BB w H g l a n c wr) (G:H+1<g) {b:Le} {a':Lt} {B c':Nat} (D:cW wq H g (l++b) a' B c') (A:pG wr wq g (bI a c)):BB w H g (l++b) a' B c' wq:=
 ⟨D,by obtain ⟨z,E,C⟩:=h.res;exact ⟨z,E,A.blk C oA (h.rowNe C dcA)⟩,A.blk h.out oA (h.rowNe h.out dcA),
  h.below.trans (A.below oA (fun b F=>(h.hash.row.lt F).1) (by have:=h.out.lt;omega))⟩
end
def Sm1 (w:As) (H g:Nat) (l:Le) (f:Nat) (wr:As):Prop:=
 ∃(z:Nat) (a:Lt) (n c:Nat),f+z=zN l.length/\BB w H g (pdl l z) a n c wr
def Sm2 (w:As) (H g T:Nat) (l:Le) (a:Lt) (n c:Nat) (f:Nat) (i:Value) (wr:As):Prop:=
 ∃k:Nat,f+k=8/\i= .int .i64 (k:Int)/\BB w H g (pdl l (zN l.length)) a n c wr/\Blk wr T (vA 8 fun j=>if j<k then bv (jm (l.length*8) j) else .int .u8 0) 260
def Sm3 (w:As) (H g:Nat) (l:Le) (f:Nat) (i:Value) (wr:As):Prop:=
 ∃k:Nat,f+k=32/\i= .int .i64 (k:Int)/\(∃r n,Blk wr g (vA 74 (hcs (Ea l) r n)) 270)/\(∃z:AS,z.size=32/\Blk wr H z 170)/\Blk wr (H+1) (vA 32 fun j=>if j<k then bv (dgb l j) else .int .u8 0) 170/\Below H w wr
theorem Il {w:As} (x:UInt8) {v:Value} (A:v=bv x):aj (w.alloc (.cells #[v] 5)) (some ⟨w.heap.size,0,none⟩) [x]:=by
 subst A;exact av.new w #[bv x] 5
theorem qU (x:BitVec 32) (s:Nat) (p:Int) (A:p=(2:Int)^s):U32 x/p%256=U8 ⟨(x>>>s).setWidth 8⟩:=by
 rw [A,kt];exact nj _
theorem qT (l:Le) (j k:Nat) (x:Int) (h:x=U8 (dgb l k)):(if j=k then Value.int .u8 x else if j<k then bv (dgb l j) else .int .u8 0)=if j<k+1 then bv (dgb l j) else .int .u8 0:=by
 subst h;by_cases e:j=k
 .subst e;rw [Vz rfl,Vz oA];rfl
 .rw [VV e];by_cases A:j<k
  .rw [Vz A,Vz oA]
  .rw [VV A,VV oA]
theorem io (j k:Nat) (n:Nat) (x:Int) (h:x=U8 (jm n k)):(if j=k then Value.int .u8 x else if j<k then bv (jm n j) else .int .u8 0)=if j<k+1 then bv (jm n j) else .int .u8 0:=by
 subst h;by_cases e:j=k
 .subst e;rw [Vz rfl,Vz oA];rfl
 .rw [VV e];by_cases A:j<k
  .rw [Vz A,Vz oA]
  .rw [VV A,VV oA]
theorem uq (B g:Nat) (l:Le) (a:Lt) (n c:Nat) (w:As) (Y:cW w B g l a n c) (hl:l.length<140737488353000):
  Calls prog 188 #[.pointer (some ⟨g,0,none⟩)] w fun e w'=>e= .returned (.agg (dgA l))/\Below w.heap.size w w':=by
 have B3:=Y.lt;go_enter func188,ntmps188;go_upto_region 4 with fail;refine ag (fun V=>cW V B g l a n c/\Blk V w.heap.size (vA 32 fun _=> .int .u8 0) 170/\Blk V (w.heap.size+1) (vA 32 fun _=> .int .u8 0) 170/\Below w.heap.size w V) ⟨(Y.alloc _).alloc _,Blk.new2 _ _ _ _,Blk.new2' _ _ _ _,cL⟩ ?_;rintro w0 ⟨Y,t,N,O⟩;obtain ⟨H,A0⟩:=At w.heap.size;rw [<-A0] at t N O⊢;have HH:=Hd A0;clear A0;go_wp2_with fail;refine (zP B g l a n c _ Y).mono ?_;rintro e w1 ⟨I,a1,W,rfl,B4,y,o⟩;have A9:w1.cell? ⟨g,9,none⟩=some (.int .u64 (l.length:Int)):=(Y.hash.old o).atV oA (MJ _ _ _);have A1:H+1<I:=(by have:=N.lt;omega);have A:BB w H I l a1 n W w1:=⟨⟨y.hash,y.row.lower (by have:=t.lt;omega),y.lt⟩,⟨_,ay _ _,t.old o⟩,N.old o,O.trans (o.mono (by have:=t.lt;omega))⟩;clear Y t N O B4 y o;obtain ⟨L,hL⟩:=At l.length;rw [<-hL] at A9 B3 hl;have M:=Hd hL;clear hL;go_wp2_with fail;refine (im H I l [128] a1 n W _ 1 1 _ (A.alloc _).hash (Il 128 rfl) rfl (by rw [<-M.out];omega) (by simp;have:=A.out.lt;omega)).mono ?_;rintro e w2 ⟨a2,n2,c2,rfl,BY,A8,-⟩;have B0:=(A.alloc (.cells #[bv 128] 5)).write A1 BY A8;clear A BY A8 A9;go_wp2_with fail;have q:Sm1 w H I l (zN l.length) w2:=⟨0,a2,n2,c2,oA,by rw [show pdl l 0=l++ [128] by simp [pdl]];exact B0⟩;clear B0;go_loopg [30] (zN l.length) (fun f _ wr=>Sm1 w H I l f wr)
 case atStart=>exact q
 case round=>
  clear q;obtain ⟨z,a,n,c,R,A⟩:=hrel;have B1:=A.hash.cell;have A2:=A.hash.left;rw [jN,<-M.out] at A2;have A3:=R;rw [<-M.out] at A3;have D:z<=zN L:=oA;have A4:(n=56↔z=zN L):=(by unfold zN at D⊢;omega);have HF:=Hd R;clear R;by_cases B2:n=56
  .have HZ:=Hd (A4.1 B2);clear A2 A3 A4 D;subst B2;go_wp2_with fail;clear B1;have A5:BB w H I (pdl l (zN l.length)) a 56 c wr:=by
    have:=HZ.out;rw [M.out] at this;rw [<-this];exact A
   clear A;obtain ⟨T,C⟩:=At wr.heap.size;have CK:I<T:=(by have:=A5.hash.hash.lt;omega);have A6:=Blk.new wr (vA 8 fun _=> .int .u8 0) 260;rw [<-C] at A6⊢;refine ag (fun V=>BB w H I (pdl l (zN l.length)) a 56 c V/\Blk V T (vA 8 fun _=> .int .u8 0) 260) ⟨A5.alloc _,A6⟩ ?_;clear A5 C A6;rintro w3 ⟨A,C⟩;go_loopg [31] 8 (Sm2 w H I T l a 56 c)
   case atStart=>exact ⟨0,oA,rfl,A,C⟩
   case round=>
    clear A C;obtain ⟨k,R,rfl,A,C⟩:=hrel;have J:=Hd R;clear R;by_cases Z:k<8
    .have hcs:k=0\/k=1\/k=2\/k=3\/k=4\/k=5\/k=6\/k=7:=oA;rcases hcs with rfl|rfl|rfl|rfl|rfl|rfl|rfl|rfl
     .have G:=C.atV (show 0<8 by omega) rfl;have f0:=C.free;go_wp2_with fail;clear G f0;go_roundg (gk-1)
      case rel=>
       refine ⟨1,by have:=J.out;omega,rfl,⟨A.hash.setCell C dcA dcA _ _,by obtain ⟨z,D,F⟩:=A.res;exact ⟨z,D,F.other _ _ (by show H≠T;omega)⟩,A.out.other _ _ (by show H+1≠T;omega),A.below.setCell (by show H<=T;omega) _⟩,?_⟩;have E:=ks (l.length*8) L 0 72057594037927936 (by rw [M.out]) rfl;refine (C.setV oA _).ofV fun j _=> ?_;exact io j 0 _ _ (by first|exact E|(rw [<-E];omega))
      case measure=>have:=J.out;omega
     .have G:=C.atV (show 1<8 by omega) rfl;have f0:=C.free;go_wp2_with fail;clear G f0;go_roundg (gk-1)
      case rel=>
       refine ⟨2,by have:=J.out;omega,rfl,⟨A.hash.setCell C dcA dcA _ _,by obtain ⟨z,D,F⟩:=A.res;exact ⟨z,D,F.other _ _ (by show H≠T;omega)⟩,A.out.other _ _ (by show H+1≠T;omega),A.below.setCell (by show H<=T;omega) _⟩,?_⟩;have E:=ks (l.length*8) L 1 281474976710656 (by rw [M.out]) rfl;refine (C.setV oA _).ofV fun j _=> ?_;exact io j 1 _ _ (by first|exact E|(rw [<-E];omega))
      case measure=>have:=J.out;omega
     .have G:=C.atV (show 2<8 by omega) rfl;have f0:=C.free;go_wp2_with fail;clear G f0;go_roundg (gk-1)
      case rel=>
       refine ⟨3,by have:=J.out;omega,rfl,⟨A.hash.setCell C dcA dcA _ _,by obtain ⟨z,D,F⟩:=A.res;exact ⟨z,D,F.other _ _ (by show H≠T;omega)⟩,A.out.other _ _ (by show H+1≠T;omega),A.below.setCell (by show H<=T;omega) _⟩,?_⟩;have E:=ks (l.length*8) L 2 1099511627776 (by rw [M.out]) rfl;refine (C.setV oA _).ofV fun j _=> ?_;exact io j 2 _ _ (by first|exact E|(rw [<-E];omega))
      case measure=>have:=J.out;omega
     .have G:=C.atV (show 3<8 by omega) rfl;have f0:=C.free;go_wp2_with fail;clear G f0;go_roundg (gk-1)
      case rel=>
       refine ⟨4,by have:=J.out;omega,rfl,⟨A.hash.setCell C dcA dcA _ _,by obtain ⟨z,D,F⟩:=A.res;exact ⟨z,D,F.other _ _ (by show H≠T;omega)⟩,A.out.other _ _ (by show H+1≠T;omega),A.below.setCell (by show H<=T;omega) _⟩,?_⟩;have E:=ks (l.length*8) L 3 4294967296 (by rw [M.out]) rfl;refine (C.setV oA _).ofV fun j _=> ?_;exact io j 3 _ _ (by first|exact E|(rw [<-E];omega))
      case measure=>have:=J.out;omega
     .have G:=C.atV (show 4<8 by omega) rfl;have f0:=C.free;go_wp2_with fail;clear G f0;go_roundg (gk-1)
      case rel=>
       refine ⟨5,by have:=J.out;omega,rfl,⟨A.hash.setCell C dcA dcA _ _,by obtain ⟨z,D,F⟩:=A.res;exact ⟨z,D,F.other _ _ (by show H≠T;omega)⟩,A.out.other _ _ (by show H+1≠T;omega),A.below.setCell (by show H<=T;omega) _⟩,?_⟩;have E:=ks (l.length*8) L 4 16777216 (by rw [M.out]) rfl;refine (C.setV oA _).ofV fun j _=> ?_;exact io j 4 _ _ (by first|exact E|(rw [<-E];omega))
      case measure=>have:=J.out;omega
     .have G:=C.atV (show 5<8 by omega) rfl;have f0:=C.free;go_wp2_with fail;clear G f0;go_roundg (gk-1)
      case rel=>
       refine ⟨6,by have:=J.out;omega,rfl,⟨A.hash.setCell C dcA dcA _ _,by obtain ⟨z,D,F⟩:=A.res;exact ⟨z,D,F.other _ _ (by show H≠T;omega)⟩,A.out.other _ _ (by show H+1≠T;omega),A.below.setCell (by show H<=T;omega) _⟩,?_⟩;have E:=ks (l.length*8) L 5 65536 (by rw [M.out]) rfl;refine (C.setV oA _).ofV fun j _=> ?_;exact io j 5 _ _ (by first|exact E|(rw [<-E];omega))
      case measure=>have:=J.out;omega
     .have G:=C.atV (show 6<8 by omega) rfl;have f0:=C.free;go_wp2_with fail;clear G f0;go_roundg (gk-1)
      case rel=>
       refine ⟨7,by have:=J.out;omega,rfl,⟨A.hash.setCell C dcA dcA _ _,by obtain ⟨z,D,F⟩:=A.res;exact ⟨z,D,F.other _ _ (by show H≠T;omega)⟩,A.out.other _ _ (by show H+1≠T;omega),A.below.setCell (by show H<=T;omega) _⟩,?_⟩;have E:=ks (l.length*8) L 6 256 (by rw [M.out]) rfl;refine (C.setV oA _).ofV fun j _=> ?_;exact io j 6 _ _ (by first|exact E|(rw [<-E];omega))
      case measure=>have:=J.out;omega
     .have G:=C.atV (show 7<8 by omega) rfl;have f0:=C.free;go_wp2_with fail;clear G f0;go_roundg (gk-1)
      case rel=>
       refine ⟨8,by have:=J.out;omega,rfl,⟨A.hash.setCell C dcA dcA _ _,by obtain ⟨z,D,F⟩:=A.res;exact ⟨z,D,F.other _ _ (by show H≠T;omega)⟩,A.out.other _ _ (by show H+1≠T;omega),A.below.setCell (by show H<=T;omega) _⟩,?_⟩;have E:=ks (l.length*8) L 7 1 (by rw [M.out]) rfl;refine (C.setV oA _).ofV fun j _=> ?_;exact io j 7 _ _ (by first|exact E|(rw [<-E];omega))
      case measure=>have:=J.out;omega
    .have:=J.out;obtain rfl:k=8:=oA;clear this;have A7:aj wr (some ⟨T,0,none⟩) (eY (l.length*8)):=by
      have B5:=C.ofV (g:=fun j=>bv (jm (l.length*8) j)) fun j b=>Vz b;refine av.mk fun j b=> ?_;rw [lmA,aM] at b;rw [VN,B5.atV b rfl];simp [eY]
     have B6:=Nr T;clear C;go_wp2_with fail;refine (im H I (pdl l (zN l.length)) (eY (l.length*8)) a 56 c _ 8 8 wr A.hash A7 (aM _) (by rw [jN];unfold zN;have:=M.out;omega) (by have:=A.out.lt;omega)).mono ?_;rintro e w4 ⟨a4,n4,c4,rfl,s,m,-⟩;have U:=A.write A1 s m;have q:Sm3 w H I l 32 (.int .i64 0) w4:=⟨0,oA,rfl,⟨_,_,U.hash.hash⟩,U.res,U.out.ofV fun j _=>by rw [VV oA],U.below⟩;clear A s m U B6 A7;go_wp2_with fail;go_loopg [46] 32 (Sm3 w H I l)
     case atStart=>exact q
     case round=>
      clear q;obtain ⟨k,R,rfl,⟨r,nn,d⟩,⟨z,D,F⟩,N,O⟩:=hrel;have P:=Hd R;clear R;by_cases Z:k<32
      .have tk:decide ((k:Int)<32)=true:=soA;have CW:(k:Int)<32:=oA;obtain ⟨p,hp⟩:=At (k/4);have C0:(k:Int)/4=(p:Int):=oA;have C1:(p:Int)<8:=oA;have G:wr.cell? ⟨I,p,none⟩=some (.int .u32 (U32 (Ea l p))):=d.atV oA (Gn _ _ _ oA);have W:=N.atV Z rfl;have f1:=N.free;have HP:=Hd hp;clear hp;have S:k%4=0\/k%4=1\/k%4=2\/k%4=3:=oA;rcases S with S|S|S|S
       .have e2:(k:Int)%4=0:=oA;clear S;go_wp2_with fail;clear G W f1;go_roundg (gk-1)
        case rel=>
         have:=P.out;refine ⟨k+1,oA,gnA,⟨r,nn,d.other _ _ (by show I≠H+1;omega)⟩,⟨z,D,F.other _ _ (by show H≠H+1;omega)⟩,(N.setV Z _).ofV fun j _=> ?_,O.setCell (by show H<=H+1;omega) _⟩;exact qT l j k _ (by
          have E:=qU (Ea l p) 24 16777216 rfl;have X:k%4=0:=oA;rw [dgb,X,<-HP.out]
          first|exact E|(rw [<-E];omega))
        case measure=>have:=P.out;omega
       .have e2:(k:Int)%4=1:=oA;clear S;go_wp2_with fail;clear G W f1;go_roundg (gk-1)
        case rel=>
         have:=P.out;refine ⟨k+1,oA,gnA,⟨r,nn,d.other _ _ (by show I≠H+1;omega)⟩,⟨z,D,F.other _ _ (by show H≠H+1;omega)⟩,(N.setV Z _).ofV fun j _=> ?_,O.setCell (by show H<=H+1;omega) _⟩;exact qT l j k _ (by
          have E:=qU (Ea l p) 16 65536 rfl;have X:k%4=1:=oA;rw [dgb,X,<-HP.out]
          first|exact E|(rw [<-E];omega))
        case measure=>have:=P.out;omega
       .have e2:(k:Int)%4=2:=oA;clear S;go_wp2_with fail;clear G W f1;go_roundg (gk-1)
        case rel=>
         have:=P.out;refine ⟨k+1,oA,gnA,⟨r,nn,d.other _ _ (by show I≠H+1;omega)⟩,⟨z,D,F.other _ _ (by show H≠H+1;omega)⟩,(N.setV Z _).ofV fun j _=> ?_,O.setCell (by show H<=H+1;omega) _⟩;exact qT l j k _ (by
          have E:=qU (Ea l p) 8 256 rfl;have X:k%4=2:=oA;rw [dgb,X,<-HP.out]
          first|exact E|(rw [<-E];omega))
        case measure=>have:=P.out;omega
       .have e2:(k:Int)%4=3:=oA;clear S;go_wp2_with fail;clear G W f1;go_roundg (gk-1)
        case rel=>
         have:=P.out;refine ⟨k+1,oA,gnA,⟨r,nn,d.other _ _ (by show I≠H+1;omega)⟩,⟨z,D,F.other _ _ (by show H≠H+1;omega)⟩,(N.setV Z _).ofV fun j _=> ?_,O.setCell (by show H<=H+1;omega) _⟩;exact qT l j k _ (by
          have E:=qU (Ea l p) 0 1 rfl;have X:k%4=3:=oA;rw [dgb,X,<-HP.out]
          first|exact E|(rw [<-E];omega))
        case measure=>have:=P.out;omega
      .obtain rfl:k=32:=(by have:=P.out;omega);have tk:decide (((32:Nat):Int)<32)=false:=skA;replace N:=N.ofV (g:=fun j=>bv (dgb l j)) fun j b=>Vz b;clear d;go_wp2_with (first|refine ap rfl 170 fX _ rfl rfl N (ay _ _) ?_|refine ae rfl 170 fX (.tmp 2) _ (cells:=dgA l) rfl rfl rfl F (ay _ _) D (dF fun _ _=>rfl) ?_);refine cT rfl fX rfl (F.setRow _) (ay _ _) rfl ⟨rfl,?_⟩;rw [HH.out] at O⊢;exact ak O oA _
  .have t56:((n:Int) !=56)=true:=soA;have B7:z<zN L:=oA;have B9:zN L<64:=(by unfold zN;omega);clear A2 A3 A4 D;go_wp2_with fail;clear B1;refine (im H I (pdl l z) [0] a n c _ 1 1 _ (A.alloc _).hash (Il 0 rfl) rfl (by rw [jN];have:=M.out;omega) (by simp;have:=A.out.lt;omega)).mono ?_;rintro e w4 ⟨a4,n4,c4,rfl,s,m,-⟩;have U:=(A.alloc (.cells #[bv 0] 5)).write A1 s m;clear A s m;go_wp2_with fail;go_roundg (gk-1)
   case rel=>exact ⟨z+1,a4,n4,c4,by have:=HF.out;rw [<-M.out] at this⊢;omega,by rw [zn];exact U⟩
   case measure=>have:=HF.out;rw [<-M.out] at this;omega
theorem Cr (l:Le) (a:Lt) (len cap:Nat) (w:As) (V:aj w a l) (I:l.length=len) (W:len<140737488353000):
  Calls prog 197 #[.slice a len cap] w fun e w'=>e= .returned (.agg (dgA l))/\Below w.heap.size w w':=by
 have P:=Hd I;clear I;go_enter func197,ntmps197;go_upto_region 1 with fail;refine ag (fun R=>Blk R w.heap.size (vA 32 fun _=> .int .u8 0) 170/\Below w.heap.size w R) ⟨Blk.new _ _ _,cL⟩ ?_;rintro w0 ⟨A,F⟩;obtain ⟨H,G⟩:=At w.heap.size;rw [<-G] at A F⊢;have S:=Hd G;clear G;go_wp2_with fail;refine (qb _).mono ?_;rintro e w1 ⟨g,rfl,X,T,D⟩;have B:=A.old D;have C:Below H w w1:=F.trans (D.mono (by have:=A.lt;omega));have d:H<g:=(by have:=A.lt;omega);clear A F X D;go_wp2_with fail;refine (im H g [] l none 0 0 a len cap _ (cW.nil T H) (V.below (S.out▸C)) P.out soA (by have:=B.lt;omega)).mono ?_;rintro e Y ⟨Z,b,c2,rfl,L,E,-⟩;have M:=E.blk B oA (by simp [bI]);have U:Below H w Y:=C.trans (E.below oA (by simp [bI]) (by have:=B.lt;omega));rw [Wl] at L;clear B C E T;go_wp2_with fail;refine (uq H g l Z b c2 _ L (by rw [P.out];exact W)).mono ?_;rintro e w3 ⟨rfl,N⟩;have O:=M.old N;go_wp2_with (refine ae rfl 170 fX (.tmp 2) _ (cells:=dgA l) rfl rfl rfl O (ay _ _) (ay _ _) (dF fun _ _=>rfl) ?_);refine cT rfl fX rfl (O.setRow _) (ay _ _) rfl ⟨rfl,?_⟩;have J:=U.trans (N.mono (by have:=M.lt;omega));rw [S.out] at J⊢;exact ak J oA _
theorem rH (d:Nat) (t e:TypeId) {P:Program} (n:Nat) (E:P.underlying t=some (.array n e)) (B:P.underlying e=some (.int .u8)) (D:∀w,(sizeOf e).run P w= .ok 1 w)
  (s u:Nat->UInt8) (w:As):
  (Op.equalIn (d+2) t (.agg (vA n fun i=>bv (s i))) (.agg (vA n fun i=>bv (u i)))).run P w= .ok ((List.range n).all fun i=>s i==u i) w:=by
 rw [List.range_eq_range',Op.equalIn];simp only [Wp,WV E,WE,D,YL,Std.Legacy.Range.size,ZD,Xm,Nat.div_one];have C:∀i∈List.range' 0 n 1,i<n:=fun i A=>(by simpa using (List.mem_range'_1.1 A).2);generalize List.range' 0 n 1=l at C⊢
 induction l with
 |nil=>simp
 |cons i l ih=>
  have A:i<n:=C i skA;have F:(part e (vA n fun i=>bv (s i)) (i*1)).run P w= .ok (.int .u8 (U8 (s i))) w:=by
   simp [part,isAgg,WV B,mJ _ A,bv]
  have G:(part e (vA n fun i=>bv (u i)) (i*1)).run P w= .ok (.int .u8 (U8 (u i))) w:=by
   simp [part,isAgg,WV B,mJ _ A,bv]
  have I:(Op.equalIn (d+1) e (.int .u8 (U8 (s i))) (.int .u8 (U8 (u i)))).run P w= .ok (s i==u i) w:=by
   rw [run_equalIn_int w d e .u8 .u8 _ _ B,EG]
  simp only [List.forIn_cons,Wp,F,G,I,WE,List.all_cons];cases L:(s i==u i)
  .simp
  .simp only [Bool.not_true,YR,if_false,Xk,WE,WU];exact ih fun j J=>C j (by simp [J])
end
section
open Go.RowKit
def dgl (l:Le):Le:=(List.range 32).map (dgb l)
def bkey (k:Le) (i:Nat):UInt8:=if 64<k.length then (if i<32 then dgb k i else 0) else k.getD i 0
def tZ (f:Nat->UInt8) (x:UInt8):Le:=(List.range 64).map fun i=>f i^^^x
def hin (k b:Le):Le:=tZ (bkey k) 54++b
def we (k b:Le):Le:=tZ (bkey k) 92++dgl (hin k b)
def mcA (k b:Le):AS:=dgA (we k b)
theorem dj (l:Le):(dgl l).length=32:=by simp [dgl]
theorem cZ (f:Nat->UInt8) (x:UInt8):(tZ f x).length=64:=by simp [tZ]
theorem xR (l:Le):(l.map bv).toArray=vA l.length fun i=>bv (l.getD i 0):=by
 refine IT skA fun i A=> ?_;simp [A]
theorem PO (n:Nat) (f:Nat->UInt8):vL n (fun i=>bv (f i))=((List.range n).map f).map bv:=by simp [vL]
theorem pI {P:Program} {o:Oper} {a:Act} {w:As} {C:Array Oper} {rest:List Oper} {Q:Exit->Act->World->Prop} (G:o.guard=none) (d s:Operand) (A D:TypeId)
  (J:o.op= .call {callee:= .builtin .copy,args:= #[d,s],argTypes:= #[A,D]}) {B:TypeId} (L:P.underlying A=some (.slice B)) (I:(P.info? B).map (·.size)=some 1)
  {E:Addr} {n c m:Nat} (M:a.eval d= .slice (some E) n c) (N:a.eval s= .slice none 0 m)
  (h:wpList P C Q rest (a.put o.dst (goInt 0)) w):wpList P C Q (o::rest) a w:=by
 refine XJ G fun K O=> ?_;have F:(Builtin.copy_ #[A,D] o.type #[.slice (some E) n c,.slice none 0 m]).run P w= .ok (goInt 0) w:=by
  simp [Builtin.copy_,WV L,eI I,Builtin.lenOf,Builtin.firstCells,storeCells]
 unfold Oper.wp;simp [execOp,J,resolve,invoke,builtin,M,N,F,Result.andThen];exact O _ _ h
theorem kD:lY prog 257 64:=⟨⟨_,underlying257,rfl⟩,krA⟩
theorem BI:(Tryz.prog.info? 257).bind (·.zero)=some (.agg (vA 64 fun _=> .int .u8 0)):=by kernel_rfl
theorem Hs:Tryz.prog.arrayLen 257=64:=by kernel_rfl
theorem Eb:Tryz.prog.elem 257=5:=by kernel_rfl
theorem No:Tryz.prog.underlying 257=some (.array (Tryz.prog.arrayLen 257) (Tryz.prog.elem 257)):=by rw [Hs,Eb];exact underlying257
theorem Iq (b:Nat) (W:As):(Instr.sliceAt 257 (.pointer (some ⟨b,0,none⟩)) none none none).run prog W= .ok (.slice (some ⟨b,0,none⟩) 64 64) W:=by
 rw [WD W _ _ No,Eb,eI jI,Hs];simp [slicedAt];rfl
theorem Dq:Tryz.prog.arrayLen 170=32:=by kernel_rfl
theorem yh:Tryz.prog.elem 170=5:=by kernel_rfl
theorem Ip:Tryz.prog.underlying 170=some (.array (Tryz.prog.arrayLen 170) (Tryz.prog.elem 170)):=by rw [Dq,yh];exact underlying170
theorem sU (b:Nat) (W:As):(Instr.sliceAt 170 (.pointer (some ⟨b,0,none⟩)) none none none).run prog W= .ok (.slice (some ⟨b,0,none⟩) 32 32) W:=by
 rw [WD W _ _ Ip,yh,eI jI,Dq];simp [slicedAt];rfl
theorem sF {w:As} {b:Nat} {l:Le} (h:Blk w b (dgA l) 170):aj w (some ⟨b,0,none⟩) (dgl l):=by
 have e:(dgl l).map bv=vL 32 fun i=>bv (dgb l i):=(by rw [PO];rfl);unfold aj;rw [e];exact av.mk fun j A=>by
  rw [df] at A;rw [VN,h.rule,dgA,mJ _ A];simp [vL]
theorem AO (l:Le) (a:Lt) (len cap:Nat) (w:As) (D:aj w a l) (M:l.length=len) (Z:len<140737488353000):
  Calls prog 184 #[.slice a len cap] w fun e w'=>e= .returned (.agg (vA 64 fun i=>bv (bkey l i)))/\Below w.heap.size w w':=by
 obtain ⟨H,E⟩:=At w.heap.size;rw [<-E];have G:=Hd M;clear M;have U:=jq BI;have y:=Iq H;have F:=Blk.new w (vA 64 fun _=> .int .u8 0) 257;by_cases O:64<len
 .have tI:decide ((64:Int)<(len:Int))=true:=soA;have j:decide (64<len)=true:=(by simpa using O);go_enter func184,ntmps184;go_upto_region 1 with fail;clear U;rw [<-E] at F⊢;refine ag (fun B=>Blk B H (vA 64 fun _=> .int .u8 0) 257/\aj B a l/\Below H w B) ⟨F,D.alloc _,by rw [E];exact cL⟩ ?_;have m:=Hd E;clear F D E;rintro w1 ⟨A,D,C⟩;go_wp2_with fail;refine (Cr l a len cap _ D G.out Z).mono ?_;rintro e N ⟨rfl,L⟩;have V:=A.old L;have d:=A.lt;have T:=C.trans (L.mono oA);clear D A C;go_upto_region 3 with (refine ae rfl 170 fX (.tmp 3) _ (cells:=dgA l) rfl rfl rfl (Blk.new _ _ _) (ay _ _) rfl (dF fun _ _=>rfl) ?_);obtain ⟨K,X⟩:=At N.heap.size;have P:=Blk.new N (vA 32 fun _=> .int .u8 0) 170;have t:H<K:=(by have:=L.size;omega);rw [<-X] at P⊢;refine ag (fun B=>Blk B H (vA 64 fun _=> .int .u8 0) 257/\Blk B K (dgA l) 170/\Below H w B) ⟨(V.alloc _).setRow_other _ _ oA,P.setRow _,ak (T.alloc oA _) oA _⟩ ?_;clear V P X T L d;rintro w3 ⟨A,W,C⟩;have p:=sU K;have I:=av.all (sF W);have J:cU (vA 64 fun _=>Value.int .u8 0) 0 ((dgl l).map bv).toArray=vA 64 fun i=>bv (bkey l i):=by
   rw [xR,kS _ _ (by rw [dj];omega),dj];refine BU fun i q=> ?_;have R:bkey l i=if i<32 then dgb l i else 0:=(by rw [bkey,Vz (by rw [G.out];exact O)]);rw [R];by_cases e:i<32
   .rw [Vz ⟨oA,oA⟩,Vz e,VG];simp [dgl,e]
   .rw [VV oA,VV e];rfl
  have S:=Hd J;clear J;go_upto_region 5 with (refine kQ rfl (.tmp 10) (.tmp 11) 22 22 rfl underlying22 jI rfl rfl A (cs:=(dgl l).map bv) (by rw [lmA,dj];rfl) I (by rw [lmA,ay,dj];omega) (cV _) ?_);rw [S.out];refine ag (fun B=>Blk B H (vA 64 fun i=>bv (bkey l i)) 257/\Below H w B) ⟨A.setRow _,ak C (VU _) _⟩ ?_;clear A C I W p;rintro N ⟨A,C⟩;go_wp2_with (first|refine ap rfl 257 kD _ rfl rfl A (ay _ _) ?_|refine ae rfl 257 kD (.tmp 2) _ (cells:=vA 64 fun i=>bv (bkey l i)) rfl rfl rfl A (ay _ _) (ay _ _) (dF fun _ _=>rfl) ?_);exact cT rfl kD rfl (A.setRow _) (ay _ _) rfl ⟨rfl,ak C (VU _) _⟩
 .have tI:decide ((64:Int)<(len:Int))=false:=soA;have j:decide (64<len)=false:=(by simpa using O);go_enter func184,ntmps184;go_upto_region 1 with fail;clear U;rw [<-E] at F⊢;refine ag (fun B=>Blk B H (vA 64 fun _=> .int .u8 0) 257/\aj B a l/\Below H w B) ⟨F,D.alloc _,by rw [E];exact cL⟩ ?_;have m:=Hd E;clear F D E;rintro w1 ⟨A,D,C⟩;cases a with
  |none=>
   have f:l=[]:=by
    cases M:l with
    |nil=>rfl
    |cons x r=>subst M;obtain ⟨b,o,s,_⟩:=D 0 skA;cases s
   subst f;obtain rfl:len=0:=(by have:=G.out;simpa using this.symm);go_wp2_with (first|refine pI rfl (.tmp 10) (.tmp 11) 22 22 rfl underlying22 jI rfl rfl ?_|refine ap rfl 257 kD _ rfl rfl A (ay _ _) ?_|refine ae rfl 257 kD (.tmp 2) _ (cells:=vA 64 fun _=> .int .u8 0) rfl rfl rfl A (ay _ _) (ay _ _) (dF fun _ _=>rfl) ?_);refine cT rfl kD rfl ((A.setRow _).ofV (g:=fun i=>bv (bkey [] i)) fun i _=> ?_) (ay _ _) rfl ⟨rfl,ak C (VU _) _⟩;simp [bkey,bv,U8]
  |some ad=>
   have Y:l.length<=64:=(by have:=G.out;omega);have hcs:(l.map bv).length=Nat.min len 64:=by
    rw [lmA,G.out];exact (Nat.min_eq_left oA).symm
   have I:=av.all D;have J:cU (vA 64 fun _=>Value.int .u8 0) 0 (l.map bv).toArray=vA 64 fun i=>bv (bkey l i):=by
    rw [xR,kS _ _ oA];refine BU fun i q=> ?_;have R:bkey l i=l.getD i 0:=(by rw [bkey,VV oA]);rw [R];by_cases e:i<l.length
    .rw [Vz ⟨oA,oA⟩];rfl
    .rw [VV oA,VG,WK oA];rfl
   have S:=Hd J;clear J Y;go_upto_region 5 with (refine kQ rfl (.tmp 10) (.tmp 11) 22 22 rfl underlying22 jI rfl rfl A (cs:=l.map bv) hcs I (by rw [lmA,ay,G.out];omega) (cV _) ?_);rw [S.out];refine ag (fun B=>Blk B H (vA 64 fun i=>bv (bkey l i)) 257/\Below H w B) ⟨A.setRow _,ak C (VU _) _⟩ ?_;clear A C D I hcs;rintro N ⟨A,C⟩;go_wp2_with (first|refine ap rfl 257 kD _ rfl rfl A (ay _ _) ?_|refine ae rfl 257 kD (.tmp 2) _ (cells:=vA 64 fun i=>bv (bkey l i)) rfl rfl rfl A (ay _ _) (ay _ _) (dF fun _ _=>rfl) ?_);exact cT rfl kD rfl (A.setRow _) (ay _ _) rfl ⟨rfl,ak C (VU _) _⟩
def Wi1 (w:As) (H:Nat) (f:Nat->UInt8) (x:UInt8) (g:Nat) (i:Value) (wr:As):Prop:=
 ∃t:Nat,g+t=64/\i= .int .i64 (t:Int)/\Blk wr H (vA 64 fun j=>bv (if j<t then f j^^^x else f j)) 257/\Below H w wr
attribute [local go_sem] my zw
theorem vT (f:Nat->UInt8) (x:UInt8) (z:Int) (N:z=U8 x) (w:As):
  Calls prog 186 #[.agg (vA 64 fun i=>bv (f i)),.int .u8 z] w fun e w'=>∃g,e= .returned (.slice (some ⟨g,0,none⟩) 64 64)/\w.heap.size<=g/\aj w' (some ⟨g,0,none⟩) (tZ f x)/\Below w.heap.size w w':=by
 subst N;obtain ⟨H,B⟩:=At w.heap.size;rw [<-B];have S:=Iq H;have F:=Blk.new w (vA 64 fun i=>bv (f i)) 257;go_enter func186,ntmps186;go_upto_region 1 with fail;rw [<-B] at F⊢;refine ag (fun G=>Blk G H (vA 64 fun i=>bv (f i)) 257/\Below H w G) ⟨F,by rw [B];exact cL⟩ ?_;have T:=Hd B;clear F B;rintro w1 ⟨A,C⟩;go_wp2_with fail;go_loopg [5,6] 64 (fun g _ i wr=>Wi1 w H f x g i wr)
 case atStart=>exact ⟨0,oA,rfl,A.ofV fun j _=>by rw [VV oA],C⟩
 case round=>
  clear A C;obtain ⟨t,D,rfl,A,C⟩:=hrel;by_cases I:t<64
  .have O:decide ((t:Int)<64)=true:=soA;have R:(t:Int)<64:=oA;have P:wr.cell? ⟨H,t,none⟩=some (.int .u8 (U8 (f t))):=A.atV I (by rw [VV oA];rfl);have f0:=A.free;have J:=Hd D;clear D;go_wp2_with fail;clear P f0;go_roundg (gk-1)
   case rel=>
    have D:=J.out;refine ⟨t+1,oA,gnA,(A.setV I _).ofV fun j _=> ?_,C.setCell (by show H<=H;omega) _⟩;by_cases e:j=t
    .subst e;rw [Vz rfl,Vz oA];rfl
    .rw [VV e];by_cases L:j<t
     .rw [Vz L,Vz oA]
     .rw [VV L,VV oA]
   case measure=>have D:=J.out;omega
  .obtain rfl:t=64:=oA;have O:decide (((64:Nat):Int)<64)=false:=skA;clear D;go_wp2_with fail;go_ret;refine ⟨H,rfl,VU _,?_,C⟩;have M:=A.ofV (g:=fun j=>bv (f j^^^x)) fun j E=>(by rw [Vz E]);refine av.mk fun j E=> ?_;rw [lmA,cZ] at E;rw [VN,M.atV E rfl];simp [tZ]
end
section
open Go.RowKit
def mcs (hi ho:Nat):AS:= #[.pointer (some ⟨hi,0,none⟩),.pointer (some ⟨ho,0,none⟩)]
structure rp (w:As) (B M:Nat) (k l:Le) (hi ho:Nat) (a:Lt) (n c:Nat) (a2:Lt) (n2 c2:Nat):Prop where
 mac:Blk w M (mcs hi ho) 256
 inn:cW w B hi (hin k l) a n c
 out:cW w B ho (tZ (bkey k) 92) a2 n2 c2
 ne:hi≠ho
 row:bI a c=none\/bI a c≠bI a2 c2
 leM:B<=M
 leI:B<=hi
 leO:B<=ho
def BD (w:As) (k:Le) (e:Ending) (w':As):Prop:=
 ∃M hi ho a n c a2 n2 c2,e= .returned (.pointer (some ⟨M,0,none⟩))/\rp w' w.heap.size M k [] hi ho a n c a2 n2 c2/\Below w.heap.size w w'
structure MnI (w:As) (H M hi ho kb:Nat) (k l:Le) (a:Lt) (n c:Nat) (wr:As):Prop where
 mac:Blk wr M (mcs hi ho) 256
 inn:cW wr H hi l a n c
 out:cW wr H ho [] none 0 0
 key:Blk wr kb (vA 64 fun i=>bv (bkey k i)) 257
 below:Below H w wr
theorem cW.fr {w w':As} {B g C:Nat} {l:Le} {a:Lt} {n c:Nat} {row:Option Nat} (h:cW w B g l a n c) (D:pG w w' C row) (G:g≠C) {cs:AS} (J:Blk w C cs 270)
  (A:(∀b,row=some b->bI a c≠some b/\g≠b)\/row=none):cW w' B g l a n c:=by
 refine ⟨D.blk h.hash G ?_,h.row.keep fun r E=> ?_,h.lt⟩
 .intro e;rcases A with A|A
  .exact (A g e).2 rfl
  .rw [A] at e;cases e
 .obtain ⟨_,I,L,F⟩:=h.row.lt E;refine D.block r I (Blk.ne F J dcA) fun e=> ?_;rcases A with A|A
  .exact (A r e).1 E
  .rw [A] at e;cases e
theorem pG.but {w w':As} {g:Nat} (h:pG w w' g none):But g w w':=⟨h.size,fun b B A=>h.block b B A skA⟩
theorem zA (k:Le) (a:Lt) (len cap:Nat) (w:As) (X:aj w a k) (hl:k.length=len) (B4:len<140737488353000):
  Calls prog 164 #[.slice a len cap] w (BD w k):=by
 obtain ⟨H,hH⟩:=At w.heap.size;have t:=Hd hH;have HL:=Hd hl;clear hl hH;go_enter func164,ntmps164;go_wp2_with fail;refine (qb _).mono ?_;rintro e w1 ⟨D,rfl,A2,j,Z⟩;go_wp2_with fail;refine (qb _).mono ?_;rintro e w2 ⟨C,rfl,B5,m,S⟩;go_upto_region 2 with fail;have o:=Blk.new w2 (mcs D C) 256;obtain ⟨M,P⟩:=At w2.heap.size;rw [<-P] at o⊢;have B6:=Z.size;have B7:=S.size;have B9:=j.lt;have CK:=m.lt;refine ag (fun F=>Blk F M (mcs D C) 256/\cW F H D [] none 0 0/\cW F H C [] none 0 0/\aj F a k/\Below H w F) ⟨o,cW.nil ((j.old S).alloc _) H,cW.nil (m.alloc _) H,((X.below Z).below S).alloc _,by rw [t.out];exact (aa Z S).alloc oA _⟩ ?_;have A3:H<=D:=(by rw [t.out];exact A2);have C3:D<C:=oA;have C4:C<M:=oA;clear o P B6 B7 B9 CK j m Z S A2 B5 X;rintro w3 ⟨P,A,hO,X,hb⟩;go_wp2_with fail;refine (AO k a len cap _ X HL.out B4).mono ?_;rintro e w4 ⟨rfl,T⟩;have p:=P.lt;have A0:=hb.trans (T.mono oA);have q:=P.old T;have A4:=A.old T;have A5:=hO.old T;clear P A hO X hb;go_upto_region 3 with (refine ae rfl 257 kD (.tmp 4) _ (cells:=vA 64 fun i=>bv (bkey k i)) rfl rfl rfl (Blk.new _ _ _) (ay _ _) rfl (dF fun _ _=>rfl) ?_);obtain ⟨y,A6⟩:=At w4.heap.size;have C5:M<y:=(by have:=q.lt;omega);have U:=Blk.new w4 (vA 64 fun _=> .int .u8 0) 257;rw [<-A6] at U⊢;refine ag (fun F=>MnI w H M D C y k [] none 0 0 F) ⟨(q.alloc _).setRow_other _ _ oA,(A4.alloc _).setRow U dcA dcA _,(A5.alloc _).setRow U dcA dcA _,U.setRow _,ak (A0.alloc oA _) oA _⟩ ?_;clear p A0 q A4 A5 U A6 T;rintro d A;have C0:∀W,But D d.drew W->W.cell? ⟨M,0,none⟩=some (.pointer (some ⟨D,0,none⟩)):=fun W J=>(A.mac.drew.but J oA).cell rfl;refine cO D (.step 0 (.step 1 (.step 2 (.step 3 (.step 4 (.step 5 (.step 6 (.step 7 .done)))))))) krA krA cdA ?_
 repeat refine txA ?_
 refine bM (v:= .agg (vA 64 fun i=>bv (bkey k i))) rfl rfl rfA (fun W J=>aI 257 kD _ rfl rfl rfl (A.key.drew.but J oA).cells (df _ _)) ?_;simp only [Act.put,sTA,List.set];refine am rfl rfl rfA (fun K E=> ?_);go_wp2_with fail;refine (vT (bkey k) 54 54 rfl _).mono ?_;rintro e w6 ⟨g6,rfl,CW,V,I⟩;go_wp2_with fail;refine E _ _ (But.of I) ?_;clear E K;refine am rfl rfl rfA (fun K E=> ?_);go_wp2_with fail;have B:=((VW d.heap.size d).drew).trans I;have G:=A.inn.old B;refine (im H D [] (tZ (bkey k) 54) none 0 0 _ 64 64 _ G V (cZ _ _) skA (by have:=G.hash.lt;omega)).mono ?_;rintro e w7 ⟨L,n7,N,rfl,r,O,A7⟩;go_wp2_with fail;refine E _ _ (pG.but O) ?_;clear E K;refine aq ?_;have s:d.heap.size<=w6.heap.size:=B.size;have C2:=A.key.lt;refine kr (fun F=>MnI w H M D C y k (tZ (bkey k) 54) L n7 N F/\(bI L N=none\/∃b,bI L N=some b/\b<F.heap.size)) ⟨⟨O.blk (A.mac.old B) oA (by simp [bI]),r,cW.nil (O.blk (A.out.hash.old B) oA (by simp [bI])) H,O.blk (A.key.old B) oA (by simp [bI]),(A.below.trans (B.mono oA)).trans (O.below A3 (by simp [bI]) oA)⟩,?_⟩ ?_
 .rcases A7 with h|h|⟨b,h,_⟩
  .exact .inl h
  .exact .inl h
  .exact .inr ⟨b,h,(r.row.lt h).2.1⟩
 clear A G I B s C2 O r A7 V C0;rintro f ⟨A,A1⟩;have HR:=Hd A1;clear A1;have C1:∀W,But C f.drew W->W.cell? ⟨M,1,none⟩=some (.pointer (some ⟨C,0,none⟩)):=fun W J=>(A.mac.drew.but J oA).cell rfl;go_upto_region 4 with fail;refine cO C (.step 0 (.step 1 (.step 2 (.step 3 (.step 4 (.step 5 (.step 6 (.step 7 .done)))))))) krA krA cdA ?_
 repeat refine txA ?_
 refine bM (v:= .agg (vA 64 fun i=>bv (bkey k i))) rfl rfl rfA (fun W J=>aI 257 kD _ rfl rfl rfl (A.key.drew.but J oA).cells (df _ _)) ?_;simp only [Act.put,sTA,List.set];refine am rfl rfl rfA (fun K E=> ?_);go_wp2_with fail;refine (vT (bkey k) 92 92 rfl _).mono ?_;rintro e w6 ⟨g6,rfl,CW,V,I⟩;go_wp2_with fail;refine E _ _ (But.of I) ?_;clear E K;refine am rfl rfl rfA (fun K E=> ?_);go_wp2_with fail;have B:=((VW f.heap.size f).drew).trans I;have G:=A.out.old B;have A8:=A.inn.old B;refine (im H C [] (tZ (bkey k) 92) none 0 0 _ 64 64 _ G V (cZ _ _) skA (by have:=G.hash.lt;omega)).mono ?_;rintro e w9 ⟨a9,n9,c9,rfl,A9,R,BY⟩;go_wp2_with fail;refine E _ _ (pG.but R) ?_;clear E K;refine aq ?_;have s:f.heap.size<=w6.heap.size:=B.size;have p:=A.mac.lt;have B0:=A8.fr R oA G.hash (.inr rfl);have B1:=R.blk (A.mac.old B) oA (by simp [bI]);have B2:=(A.below.trans (B.mono oA)).trans (R.below (show H<=C by omega) (by simp [bI]) oA);have B3:bI L N=none\/bI L N≠bI a9 c9:=by
  rcases HR.out with h|⟨b,h,C6⟩
  .exact .inl h
  .refine .inr fun e=> ?_;rw [h] at e;rcases BY with Y|Y|⟨b2,Y,C7⟩
   .rw [Y] at e;cases e
   .rw [Y] at e;simp [bI] at e
   .rw [Y] at e;cases e;omega
 have hA:rp w9 H M k [] D C L n7 N a9 n9 c9:=⟨B1,by rw [hin,WO];exact B0,A9,oA,B3,oA,A3,oA⟩;clear A G A8 I B s p B0 B1 R A9 BY B3 V C1;go_wp2_with fail;go_ret;rw [t.out] at hA B2;exact ⟨M,D,C,L,n7,N,a9,n9,c9,rfl,hA,B2⟩
def NN (w:As) (B M:Nat) (k l:Le) (hi ho:Nat) (row:Option Nat) (a2:Lt) (n2 c2:Nat) (e:Ending) (w':As):Prop:=
 ∃a n c,e= .returned (.int .i64 0)/\rp w' B M k l hi ho a n c a2 n2 c2/\pG w w' hi row/\(bI a c=none\/bI a c=row\/∃b,bI a c=some b/\w.heap.size<=b)
theorem rp.old {w w':As} {B M:Nat} {k l:Le} {C D:Nat} {a:Lt} {n c:Nat} {E:Lt} {F c2:Nat} (h:rp w B M k l C D a n c E F c2) (A:Below w.heap.size w w'):rp w' B M k l C D a n c E F c2:=
 ⟨h.mac.old A,h.inn.old A,h.out.old A,h.ne,h.row,h.leM,h.leI,h.leO⟩
theorem lB (B M:Nat) (k l b:Le) (C J:Nat) (a:Lt) (n c:Nat) (L:Lt) (N c2:Nat) (O:Lt) (len cap:Nat) (w:As) (A:rp w B M k l C J a n c L N c2) (U:aj w O b) (F:b.length=len) (d:l.length+len<140737488353000):
  Calls prog 165 #[.pointer (some ⟨M,0,none⟩),.slice O len cap] w (NN w B M k (l++b) C J (bI a c) L N c2):=by
 have V:w.cell? ⟨M,0,none⟩=some (.pointer (some ⟨C,0,none⟩)):=A.mac.cell rfl;have W:=Hd F;clear F;go_enter func165,ntmps165;go_wp2_with fail;clear V;refine (im B C (hin k l) b a n c _ len cap w A.inn U W.out (by rw [hin,laA,cZ];omega) (by have:=A.inn.hash.lt;have:=A.leI;omega)).mono ?_;rintro e w1 ⟨X,n1,Y,rfl,R,D,G⟩;go_wp2_with fail;go_ret;have P:bI a c≠some M:=fun e=>by
  obtain ⟨_,_,S,E⟩:=A.inn.row.lt e;exact Blk.ne E A.mac dcA rfl
 have T:M≠C:=Blk.ne A.mac A.inn.hash dcA;refine ⟨X,n1,Y,rfl,⟨D.blk A.mac T P,by rw [hin,<-Vf];exact R,A.out.fr D (Vl A.ne) A.inn.hash ?_,A.ne,?_,A.leM,A.leI,A.leO⟩,D,G⟩
 .rcases A.row with h|h
  .exact .inr h
  .refine .inl fun b I=>⟨fun e=>h (I.trans e.symm),fun e=> ?_⟩;obtain ⟨_,_,S,E⟩:=A.inn.row.lt I;exact Blk.ne E A.out.hash dcA e.symm
 .rcases G with h|h|⟨f,h,Z⟩
  .exact .inl h
  .rw [h];exact A.row
  .refine .inr fun e=> ?_;rw [h] at e;have:=(A.out.row.lt e.symm).2.1;omega
theorem zz (B M:Nat) (k l:Le) (R S:Nat) (a:Lt) (n c:Nat) (W:Lt) (L c2:Nat) (w:As) (D:rp w B M k l R S a n c W L c2) (hl:l.length<140737488352000):
  Calls prog 167 #[.pointer (some ⟨M,0,none⟩)] w fun e w'=>e= .returned (.agg (mcA k l))/\Below w.heap.size w w':=by
 obtain ⟨H,N⟩:=At w.heap.size;have U:=Blk.new w (vA 32 fun _=> .int .u8 0) 170;rw [<-N] at U⊢;go_enter func167,ntmps167;go_upto_region 1 with fail;rw [<-N];refine ag (fun A=>Blk A H (vA 32 fun _=> .int .u8 0) 170/\rp A B M k l R S a n c W L c2/\Below H w A) ⟨U,D.old ((VW _ _).alloc (VU _) _),by rw [N];exact cL⟩ ?_;have HH:=Hd N;clear U D N;rintro w0 ⟨E,D,F⟩;have c1:w0.cell? ⟨M,1,none⟩=some (.pointer (some ⟨S,0,none⟩)):=D.mac.cell rfl;have y:=E.lt;go_wp2_with fail;refine (zP B S _ W L c2 _ D.out).mono ?_;rintro e w1 ⟨g,X,Y,rfl,hg,C,G⟩;have V:=D.old G;have j:=E.old G;have Z:=F.trans (G.mono oA);have c0:w1.cell? ⟨M,0,none⟩=some (.pointer (some ⟨R,0,none⟩)):=V.mac.cell rfl;have A0:=G.size;have C:cW w1 (H+1) g _ _ _ _:=⟨C.hash,C.row.lower oA,C.lt⟩;clear c1 D G E F;go_wp2_with fail;refine (uq B R (hin k l) a n c _ V.inn (by rw [hin,laA,cZ];omega)).mono ?_;rintro e s ⟨rfl,I⟩;have m:=j.old I;have o:=C.old I;have d:=Z.trans (I.mono oA);have A1:=I.size;have A2:=C.hash.lt;clear c0 V j C Z I;go_upto_region 5 with (refine ae rfl 170 fX (.tmp 4) _ (cells:=dgA (hin k l)) rfl rfl rfl (Blk.new _ _ _) (ay _ _) rfl (dF fun _ _=>rfl) ?_);obtain ⟨K,O⟩:=At s.heap.size;have P:=Blk.new s (vA 32 fun _=> .int .u8 0) 170;rw [<-O] at P⊢;refine ag (fun A=>Blk A H (vA 32 fun _=> .int .u8 0) 170/\cW A (H+1) g (tZ (bkey k) 92) X L Y/\Blk A K (dgA (hin k l)) 170/\Below H w A) ⟨(m.alloc _).setRow_other _ _ oA,(o.alloc _).setRow P dcA dcA _,P.setRow _,ak (d.alloc oA _) oA _⟩ ?_;have A6:H<g:=oA;clear m o d P O A0 A1 A2 y hg;rintro w3 ⟨E,J,O,F⟩;have q2:=sU K;go_wp2_with fail;refine (im (H+1) g (tZ (bkey k) 92) (dgl (hin k l)) X L Y _ 32 32 _ J (sF O) (dj _) (by rw [cZ];omega) (by have:=J.hash.lt;omega)).mono ?_;rintro e w4 ⟨a4,n4,c4,rfl,A3,T,A4⟩;have f:bI X Y≠some H:=fun e=>(by have:=(J.row.lt e).1;omega);have p:=T.blk E oA f;have A5:=F.trans (T.below oA (fun b F=>by have:=(J.row.lt F).1;omega) (by have:=E.lt;omega));clear E J O F q2 T A4 f;go_wp2_with fail;refine (uq (H+1) g (we k l) a4 n4 c4 _ A3 (by rw [we,laA,cZ,dj];omega)).mono ?_;rintro e w5 ⟨rfl,q⟩;have r:=p.old q
 have t:=A5.trans (q.mono (by have:=p.lt;omega));go_wp2_with (refine ae rfl 170 fX (.tmp 2) _ (cells:=dgA (we k l)) rfl rfl rfl r (ay _ _) (ay _ _) (dF fun _ _=>rfl) ?_);exact cT rfl fX rfl (r.setRow _) (ay _ _) rfl ⟨rfl,ak t (VU _) _⟩
theorem JM (k b:Le) (F:Lt) (G f:Nat) (I:Lt) (bn j:Nat) (w:As) (D:aj w F k) (T:k.length=G) (A1:G<140737488352000) (A:aj w I b) (U:b.length=bn) (y:bn<140737488352000):
  Calls prog 143 #[.slice F G f,.slice I bn j] w fun e w'=>e= .returned (.agg (mcA k b))/\Below w.heap.size w w':=by
 obtain ⟨H,E⟩:=At w.heap.size;have N:=Blk.new w (vA 32 fun _=> .int .u8 0) 170;rw [<-E] at N⊢;have HK:=Hd T;have m:=Hd U;clear T U;go_enter func143,ntmps143;go_upto_region 1 with fail;rw [<-E];refine ag (fun J=>Blk J H (vA 32 fun _=> .int .u8 0) 170/\aj J F k/\aj J I b/\Below H w J) ⟨N,D.alloc _,A.alloc _,by rw [E];exact cL⟩ ?_;have HH:=Hd E;clear N D A E;rintro w0 ⟨O,D,V,A⟩;have A2:=O.lt;go_wp2_with fail;refine (zA k F G f _ D HK.out oA).mono ?_;rintro e w1 ⟨M,o,p,a,n,c,q,r,c2,rfl,B,C⟩;have A3:=C.size;have W:=O.old C;have P:=A.trans (C.mono oA);have R:=V.below C;clear D V A O;go_wp2_with fail;refine (lB w0.heap.size M k [] b o p a n c q r c2 I bn j _ B R m.out soA).mono ?_;rintro e w2 ⟨a3,n3,c3,rfl,X,L,A0⟩;have S:bI a c≠some H:=fun e=>(by have:=(B.inn.row.lt e).1;omega);have A4:=B.leI;have Y:=L.blk W oA S;have s:=P.trans (L.below oA (fun b A=>by have:=(B.inn.row.lt A).1;omega) oA);rw [Wl] at X;clear W P R L A0 S B C;go_wp2_with fail;refine (zz w0.heap.size M k b o p a3 n3 c3 q r c2 _ X (by rw [m.out];exact y)).mono ?_;rintro e w3 ⟨rfl,Z⟩;have d:=Y.old Z;have t:=s.trans (Z.mono (by have:=Y.lt;omega));go_wp2_with (refine ae rfl 170 fX (.tmp 4) _ (cells:=mcA k b) rfl rfl rfl d (ay _ _) (ay _ _) (dF fun _ _=>rfl) ?_);exact cT rfl fX rfl (d.setRow _) (ay _ _) rfl ⟨rfl,ak t (VU _) _⟩
end
section
open Go.RowKit
theorem Hn (h l k:Nat) (A:l<2^k) (B:2^k*h+l<2^64):bits .or .u64 ((2^k*h:Nat):Int) (l:Int)=((2^k*h+l:Nat):Int):=by
 rw [yt];have e:(BitVec.ofInt 64 ((2^k*h:Nat):Int)|||BitVec.ofInt 64 (l:Int)).toNat=2^k*h+l:=by
  rw [BitVec.toNat_or,XM,XM,Wi,Wi,Wn oA,Wn oA,Nat.two_pow_add_eq_or_of_lt A]
 show ((BitVec.toNat _:Nat):Int)=_;rw [e]
theorem tg (x y:Nat) (w:As) (hx:x<2^64) (hy:y<2^64):
  Calls prog 213 #[.int .u64 (x:Int),.int .u64 (y:Int)] w fun e w'=>e= .returned (.tuple #[.int .u64 ((x*y/2^64:Nat):Int),.int .u64 ((x*y%2^64:Nat):Int)])/\w=w':=by
 obtain ⟨A,Y⟩:=At (x/4294967296);obtain ⟨D,J⟩:=At (x%4294967296);obtain ⟨B,Z⟩:=At (y/4294967296);obtain ⟨E,L⟩:=At (y%4294967296);have bd:∀p q:Nat,p<=4294967295->q<=4294967295->p*q<=18446744065119617025:=fun p q h1 h2=>XF h1 h2;have f:=bd D E oA oA;have j:=bd A E oA oA;have m:=bd D B oA oA;have o:=bd A B oA oA;have C:=vU A D B E 4294967296;rw [show A*4294967296+D=x by omega,show B*4294967296+E=y by omega] at C;have M:=gy D E;have N:=gy A E;have O:=gy D B;have P:=gy A B;obtain ⟨a,T⟩:=At (D*E);obtain ⟨b,U⟩:=At (A*E);obtain ⟨c,V⟩:=At (D*B);obtain ⟨d,W⟩:=At (A*B);rw [<-T] at f M C;rw [<-U] at j N C;rw [<-V] at m O C;rw [<-W] at o P C;rw [Wn oA] at M N O P;obtain ⟨t,ht⟩:=At (b+a/4294967296);obtain ⟨t0,R⟩:=At (t%4294967296);obtain ⟨t1,A0⟩:=At (t/4294967296);obtain ⟨s,hs⟩:=At (c+t0);obtain ⟨u,hu⟩:=At (d+t1);obtain ⟨v,hv⟩:=At (u+s/4294967296);obtain ⟨G,S⟩:=At (a%4294967296);obtain ⟨F,A1⟩:=At (s%4294967296);obtain ⟨r,I⟩:=At (x*y%2^64);have X:v=x*y/2^64:=(by rw [C];omega);have HR:r=4294967296*F+G:=(by rw [I,C];omega);have q1:(x:Int)/4294967296=(A:Int):=oA;have q2:(y:Int)/4294967296=(B:Int):=oA;have a1:=yx x hx;have a2:=yx y hy;rw [<-J] at a1;rw [<-L] at a2;have a3:=yx t oA;rw [<-R] at a3;have a4:=yx a oA;rw [<-S] at a4;obtain ⟨z,hz⟩:=At (4294967296*F);have o1:=Hn F G 32 oA oA;rw [show 2^32*F=z by omega,show z+G=r by omega] at o1;have w1:IntKind.u64.wrap ((b:Int)+(a:Int)/4294967296)=(t:Int):=(by rw [show (b:Int)+(a:Int)/4294967296=((t:Nat):Int) by omega,eW];omega);have w2:(t:Int)/4294967296=(t1:Int):=oA;have w3:IntKind.u64.wrap ((c:Int)+(t0:Int))=(s:Int):=(by rw [show (c:Int)+(t0:Int)=((s:Nat):Int) by omega,eW];omega);have w4:IntKind.u64.wrap ((d:Int)+(t1:Int))=(u:Int):=(by rw [show (d:Int)+(t1:Int)=((u:Nat):Int) by omega,eW];omega);have w5:IntKind.u64.wrap ((u:Int)+(s:Int)/4294967296)=(v:Int):=(by rw [show (u:Int)+(s:Int)/4294967296=((v:Nat):Int) by omega,eW];omega);have w6:(s:Int)*4294967296%18446744073709551616=(z:Int):=oA;have w7:IntKind.u64.wrap ((s:Int)*4294967296)=(z:Int):=(by rw [show (s:Int)*4294967296=((s*4294967296:Nat):Int) by omega,eW];omega);rw [<-X,<-I]
 clear J Y L Z T U V W ht R A0 hs hu hv I X HR C bd S A1 hz;go_enter func213,ntmps213;go_wp2_with fail;go_ret2;exact ⟨rfl,rfl⟩
theorem rV (y x:Nat) (w:As) (L:y<2^40) (hx:x<65536):
  Calls prog 212 #[.int .u64 (y:Int),.int .u64 (x:Int)] w fun e w'=>e= .returned (.bool (pwB false y x))/\w=w':=by
 have G:=tg y y w oA oA;have A:pwB false y x=decide (y*y<=x*18446744073709551616):=rfl;obtain ⟨h,B⟩:=At (y*y/2^64);obtain ⟨l,C⟩:=At (y*y%2^64);rw [<-B,<-C] at G;obtain ⟨P,I⟩:=At (y*y);rw [<-I] at B C A;have E:=Hd G;clear G I;by_cases F:h<x
 .have D:=Hd (show pwB false y x=true by rw [A];simp;omega);have t1:decide (h<x)=true:=(by simpa using F);clear B C A;go_enter func212,ntmps212;go_wp2_with fail;refine E.out.mono ?_;rintro e w' ⟨rfl,rfl⟩;go_wp2_with fail;go_ret;exact ⟨by rw [D.out];rfl,rfl⟩
 .by_cases h2:h=x/\l=0
  .obtain ⟨rfl,rfl⟩:=h2;have D:=Hd (show pwB false y h=true by rw [A];simp;omega);clear B C A;go_enter func212,ntmps212;go_wp2_with fail;refine E.out.mono ?_;rintro e w' ⟨rfl,rfl⟩;go_wp2_with fail;go_ret;exact ⟨by rw [D.out];rfl,rfl⟩
  .have D:=Hd (show pwB false y x=false by rw [A];simp;omega);have t1:decide (h<x)=false:=(by simpa using F);by_cases J:h=x
   .subst J;have t3:((l:Int)==0)=false:=soA;clear B C A F h2;go_enter func212,ntmps212;go_wp2_with fail;refine E.out.mono ?_;rintro e w' ⟨rfl,rfl⟩;go_wp2_with fail;go_ret;exact ⟨by rw [D.out];rfl,rfl⟩
   .have t3:((h:Int)==(x:Int))=false:=soA;clear B C A F h2;go_enter func212,ntmps212;go_wp2_with fail;refine E.out.mono ?_;rintro e w' ⟨rfl,rfl⟩;go_wp2_with fail;go_ret;exact ⟨by rw [D.out];rfl,rfl⟩
theorem zO (y x:Nat) (w:As) (f:y<2^37) (hx:x<65536):
  Calls prog 211 #[.int .u64 (y:Int),.int .u64 (x:Int)] w fun e w'=>e= .returned (.bool (pwB true y x))/\w=w':=by
 have I:=tg y y w oA oA;have A:pwB true y x=decide (y*y*y<=x*79228162514264337593543950336):=rfl;obtain ⟨h,J⟩:=At (y*y/2^64);obtain ⟨l,L⟩:=At (y*y%2^64);rw [<-J,<-L] at I;have G:=tg l y w oA oA;obtain ⟨a,M⟩:=At (l*y/2^64);obtain ⟨b,O⟩:=At (l*y%2^64);rw [<-M,<-O] at G;have V:y*y<=2^37*2^37:=XF oA oA;have Y:h<=1024:=oA;have T:h*y<=1024*2^37:=XF oA oA;have W:l*y<=2^64*2^37:=XF oA oA;obtain ⟨C,P⟩:=At (h*y+a);have S:=sH y h l a b C (y*y) rfl J L M O P;rw [S] at A;have k1:=gy h y;rw [Wn oA] at k1;obtain ⟨q,U⟩:=At (h*y);rw [<-U] at k1 P T;have k2:IntKind.u64.wrap ((q:Int)+(a:Int))=(C:Int):=(by rw [show (q:Int)+(a:Int)=((C:Nat):Int) by omega,eW];omega);have Z:C<2^48:=oA;have d:b<2^64:=oA;obtain ⟨N,E⟩:=At (x*4294967296);have k3:(x:Int)*4294967296=(N:Int):=oA;have F:=Hd I;have B:=Hd G;clear I G J L M O P S U V W T;by_cases R:C<N
 .have D:=Hd (show pwB true y x=true by rw [A];exact VK oA);have t1:decide (C<N)=true:=(by simpa using R);clear A E;go_enter func211,ntmps211;go_wp2_with fail;refine F.out.mono ?_;rintro e w' ⟨rfl,rfl⟩;go_wp2_with fail;refine B.out.mono ?_;rintro e w' ⟨rfl,rfl⟩;go_wp2_with fail;refine B.out.mono ?_;rintro e w' ⟨rfl,rfl⟩;go_wp2_with fail;go_ret;exact ⟨by rw [D.out];rfl,rfl⟩
 .by_cases h2:C=N
  .subst h2;by_cases X:b=0
   .subst X;have D:=Hd (show pwB true y x=true by rw [A];exact VK oA);clear A E;go_enter func211,ntmps211;go_wp2_with fail;refine F.out.mono ?_;rintro e w' ⟨rfl,rfl⟩;go_wp2_with fail;refine B.out.mono ?_;rintro e w' ⟨rfl,rfl⟩;go_wp2_with fail;refine B.out.mono ?_;rintro e w' ⟨rfl,rfl⟩;go_wp2_with fail;go_ret;exact ⟨by rw [D.out];rfl,rfl⟩
   .have t4:((b:Int)==0)=false:=soA;have D:=Hd (show pwB true y x=false by rw [A];exact VO oA);clear A E;go_enter func211,ntmps211;go_wp2_with fail;refine F.out.mono ?_;rintro e w' ⟨rfl,rfl⟩;go_wp2_with fail;refine B.out.mono ?_;rintro e w' ⟨rfl,rfl⟩;go_wp2_with fail;refine B.out.mono ?_;rintro e w' ⟨rfl,rfl⟩;go_wp2_with fail;go_ret;exact ⟨by rw [D.out];rfl,rfl⟩
  .have t1:decide (C<N)=false:=(by simpa using R);have t2:((C:Int)==(N:Int))=false:=soA;have D:=Hd (show pwB true y x=false by rw [A];exact VO oA);clear A E R h2;go_enter func211,ntmps211;go_wp2_with fail;refine F.out.mono ?_;rintro e w' ⟨rfl,rfl⟩;go_wp2_with fail;refine B.out.mono ?_;rintro e w' ⟨rfl,rfl⟩;go_wp2_with fail;refine B.out.mono ?_;rintro e w' ⟨rfl,rfl⟩;go_wp2_with fail;go_ret;exact ⟨by rw [D.out];rfl,rfl⟩
open Go.RowKit
def tsB (third:Bool) (y n:Nat):Bool:=if third then decide (y<68719476736)&&pwB true y n else pwB false y n
def hfx (third:Bool) (n:Nat):Nat->Nat
 |0=>0
 |k+1=>if tsB third (hfx third n k+2^(39-k)) n then hfx third n k+2^(39-k) else hfx third n k
theorem DK (A:Bool) (n:Nat):∀k,k<=40->∃q,hfx A n k=2^(40-k)*q/\hfx A n k+2^(40-k)<=2^40
 |0,_=>⟨0,rfl,by simp [hfx]⟩
 |k+1,h=>by
  obtain ⟨q,B,D⟩:=DK A n k oA;have e:2^(40-k)=2^(40-(k+1))*2:=(by rw [show 40-k=(40-(k+1))+1 by omega,Ze]);have C:39-k=40-(k+1):=oA;rw [hfx];split
  .refine ⟨2*q+1,?_,?_⟩
   .rw [B,e,C,Nat.mul_add,Vr,Nat.mul_assoc]
   .rw [C];omega
  .refine ⟨2*q,?_,?_⟩
   .rw [B,e,Nat.mul_assoc]
   .omega
theorem Qe:(qt.map fun x=>BitVec.ofNat 32 (hfx true x 40))=Ll:=by decide+kernel
theorem Qf:((qt.take 8).map fun x=>BitVec.ofNat 32 (hfx false x 40))=Lm:=by decide+kernel
theorem DI {A:Bool} {n k X Y p:Nat} (B:X=hfx A n k) (C:2^(39-k)=p) (D:Y=X+p) (h:tsB A Y n=true):Y=hfx A n (k+1):=by
 subst B C D;rw [hfx,Vz h]
theorem DJ {A:Bool} {n k X Y p:Nat} (B:X=hfx A n k) (C:2^(39-k)=p) (D:Y=X+p) (h:tsB A Y n=false):X=hfx A n (k+1):=by
 subst B C D;rw [hfx,h];rfl
theorem Hg (Y n:Nat) (b:Bool) (h:pwB false Y n=b):tsB false Y n=b:=h
theorem Hh (Y n:Nat) (b:Bool) (h:Y<68719476736) (A:pwB true Y n=b):tsB true Y n=b:=by
 rw [tsB,Vz rfl,A,VK h];rfl
theorem IX (Y n:Nat) (h:¬Y<68719476736):tsB true Y n=false:=by
 rw [tsB,Vz rfl,VO h];rfl
def QG (w:As) (third:Bool) (n:Nat) (f:Nat) (x i:Value) (wr:As):Prop:=
 ∃(k:Nat) (z:Int) (X:Nat),f+k=40/\z=39-(k:Int)/\X=hfx third n k/\i= .int .i64 z/\x= .int .u64 (X:Int)/\w=wr
theorem zH (n:Nat) (G:Bool) (w:As) (M:n<65536):
  Calls prog 208 #[.int .u64 (n:Int),.bool G] w fun e w'=>e= .returned (.int .u64 (hfx G n 40:Int))/\w=w':=by
 go_enter func208,ntmps208;go_wp2_with fail;go_loopg [5,6] 40 (QG w G n)
 case atStart=>exact ⟨0,39,0,oA,oA,rfl,rfl,rfl,rfl⟩
 case round=>
  obtain ⟨k,z,X,S,b,D,rfl,rfl,rfl⟩:=hrel;have C:=Hd S;by_cases o:k<40
  .obtain ⟨j,T⟩:=At (39-k);obtain rfl:z=(j:Int):=oA;have f:(j:Int)<40:=oA;obtain ⟨p,F⟩:=At (2^j);have m:IntKind.u64.wrap ((2:Int)^j)=(p:Int):=by
    have O:2^j<2^64:=Nat.pow_lt_pow_right oA oA;rw [show (2:Int)^j=((2^j:Nat):Int) by norm_cast,eW,Wn O,F]
   obtain ⟨q,N,P⟩:=DK G n k oA;have W:40-k=j+1:=oA;rw [W] at N P;have A:2^(j+1)=2*p:=(by rw [F,Ze,Wr]);have O:X+2*p<=1099511627776:=(by rw [D,<-A];exact P);have d:0<p:=(by rw [F];exact Nat.two_pow_pos j);have Z:=Hn q p (j+1) oA (by rw [<-N,<-D];omega);rw [<-N,<-D] at Z;obtain ⟨Y,U⟩:=At (X+p);rw [<-U] at Z;have V:Y<2^40:=oA;have E:=Hd D;have J:=Hd T;have r:=Hd F;have L:=Hd U;have I:=Hd (show 2^(39-k)=p by rw [F,T]);clear D T F U N P W A O d S b;cases G with
   |false=>
    cases A:pwB false Y n with
    |true=>
     have B:=Hd A;clear A;go_wp2_with fail;refine (rV Y n _ V M).mono ?_;rw [B.out];rintro e w' ⟨rfl,rfl⟩;go_wp2_with fail;go_roundg (gk-1)
     case rel=>exact ⟨k+1,(j:Int)-1,Y,by have:=C.out;omega,by have:=J.out;omega,DI E.out I.out L.out (Hg _ _ _ B.out),rfl,rfl,rfl⟩
     case measure=>have:=C.out;omega
    |false=>
     have B:=Hd A;clear A;go_wp2_with fail;refine (rV Y n _ V M).mono ?_;rw [B.out];rintro e w' ⟨rfl,rfl⟩;go_wp2_with fail;go_roundg (gk-1)
     case rel=>exact ⟨k+1,(j:Int)-1,X,by have:=C.out;omega,by have:=J.out;omega,DJ E.out I.out L.out (Hg _ _ _ B.out),rfl,rfl,rfl⟩
     case measure=>have:=C.out;omega
   |true=>
    by_cases R:Y<68719476736
    .have t36:decide ((Y:Int)<68719476736)=true:=soA;cases A:pwB true Y n with
     |true=>
      have B:=Hd A;clear A;go_wp2_with fail;refine (zO Y n _ oA M).mono ?_;rw [B.out];rintro e w' ⟨rfl,rfl⟩;go_wp2_with fail;go_roundg (gk-1)
      case rel=>exact ⟨k+1,(j:Int)-1,Y,by have:=C.out;omega,by have:=J.out;omega,DI E.out I.out L.out (Hh _ _ _ R B.out),rfl,rfl,rfl⟩
      case measure=>have:=C.out;omega
     |false=>
      have B:=Hd A;clear A;go_wp2_with fail;refine (zO Y n _ oA M).mono ?_;rw [B.out];rintro e w' ⟨rfl,rfl⟩;go_wp2_with fail;go_roundg (gk-1)
      case rel=>exact ⟨k+1,(j:Int)-1,X,by have:=C.out;omega,by have:=J.out;omega,DJ E.out I.out L.out (Hh _ _ _ R B.out),rfl,rfl,rfl⟩
      case measure=>have:=C.out;omega
    .have t36:decide ((Y:Int)<68719476736)=false:=soA;go_wp2_with fail;go_roundg (gk-1)
     case rel=>exact ⟨k+1,(j:Int)-1,X,by have:=C.out;omega,by have:=J.out;omega,DJ E.out I.out L.out (IX _ _ R),rfl,rfl,rfl⟩
     case measure=>have:=C.out;omega
  .obtain rfl:k=40:=oA;obtain rfl:z= -1:=oA;have E:=Hd D;clear S b D;go_wp2_with fail;go_ret;exact ⟨by rw [<-E.out];rfl,rfl⟩
open Go.RowKit
def okB (X:Nat) (l:List Nat) (j:Nat):Bool:=(l.take j).all fun p=>X%p !=0
theorem FN (X:Nat) (l:List Nat) (j:Nat) (h:j<l.length):okB X l (j+1)=(okB X l j&&X%l[j] !=0):=by
 unfold okB;rw [Vj h,List.all_append];simp
theorem Jz (X:Nat) (l:List Nat):okB X l l.length=l.all fun p=>X%p !=0:=by unfold okB;rw [List.take_length]
def Pr1 (w:As) (n:Nat) (f:Nat) (l x:Value) (wr:As):Prop:=
 ∃(k X L:Nat) (pa:Lt) (pc:Nat),f+k=311/\X=k+2/\L=(ps k).length/\L<=n/\l= .slice pa L pc/\x= .int .u64 (X:Int)/\Own wr w.heap.size 105 1 pa (ps k).length pc ((ps k).map nv)/\Below w.heap.size w wr
def Pr2 (wq:As) (X:Nat) (l:List Nat) (f:Nat) (ok i:Value) (wr:As):Prop:=
 ∃j:Nat,f+j=l.length/\i= .int .i64 (j:Int)/\ok= .bool (okB X l j)/\wq=wr
theorem ql (n:Nat) (w:As) (hn:n<=64):
  Calls prog 207 #[.int .i64 (n:Int)] w fun e w'=>∃k a c,(ps k).length=n/\e= .returned (.slice a n c)/\Own w' w.heap.size 105 1 a n c ((ps k).map nv)/\Below w.heap.size w w':=by
 go_enter func207,ntmps207;go_wp2_with fail;go_loopg [3,4] 311 (Pr1 w n)
 case atStart=>exact ⟨0,2,0,none,0,oA,rfl,rfl,oA,rfl,rfl,Own.nil _ _ _ _,VW _ _⟩
 case round=>
  obtain ⟨k,X,L,pa,pc,A,D,G,A1,rfl,rfl,E,J⟩:=hrel;have m:=E.le_max;rw [<-G] at m;unfold maxLen at m;have A8:L<=k:=(by rw [G];exact Hl k);by_cases q:L<n
  .have tl:decide (L<n)=true:=(by simpa using q);have hk:k<310:=Mk oA;have A9:X<65536:=oA;have P:=Hd A;have V:=Hd D;have C:=Hd G;clear A D G;obtain ⟨g0,rfl⟩:∃g:Nat,g=gk:=⟨_,rfl⟩;obtain ⟨R,rfl⟩:∃R:World,R=wr:=⟨_,rfl⟩;go_wp2_with fail;go_loopg [5,6] L (Pr2 R X (ps k))
   case atStart=>exact ⟨0,by rw [<-C.out];omega,rfl,rfl,rfl⟩
   case round=>
    obtain ⟨j,A,rfl,rfl,rfl⟩:=hrel;have O:=C.out;by_cases W:j<L
    .have tj:decide (j<L)=true:=(by simpa using W);have r:j<(ps k).length:=(by rw [<-O];exact W);obtain ⟨b,o,A2,hc⟩:=E.row j (by simpa using r);subst A2;obtain ⟨p,S⟩:=At ((ps k)[j]);have BY:R.cell? ⟨b,o+j,none⟩=some (.int .u64 (p:Int)):=by
      rw [hc,S];simp [nv]
     have B0:2<=p:=(by rw [S];exact (Hk k _ (VQ _)).1);have A7:(2:Int)<=(p:Int):=oA;have HS:=Hd (FN X (ps k) j r);have HP:=Hd S;have F:=Hd A;have Y:=Hd O;clear hc S A O;have Z:((X:Int)%(p:Int) !=0)=(X%p !=0):=by
      rw [WX];simp;omega
     have s:∀c:Bool,(okB X (ps k) j&&X%p !=0)=c->Value.bool c= .bool (okB X (ps k) (j+1)):=fun c h=>(by rw [HS.out,<-HP.out,h]);have U:=Hd s;clear s;cases B:okB X (ps k) j with
     |true=>
      cases I:(X%p !=0) with
      |true=>
       rw [I] at Z;have M:=Hd (U.out true (by rw [B,I];rfl));clear B I;go_wp2_with fail;go_roundg (gk-1)
       case rel=>exact ⟨j+1,by have:=F.out;omega,gnA,M.out,rfl⟩
       case measure=>have A:=F.out;have:=Y.out;omega
      |false=>
       rw [I] at Z;have M:=Hd (U.out false (by rw [B,I];rfl));clear B I;go_wp2_with fail;go_roundg (gk-1)
       case rel=>exact ⟨j+1,by have:=F.out;omega,gnA,M.out,rfl⟩
       case measure=>have A:=F.out;have:=Y.out;omega
     |false=>
      have M:=Hd (U.out false (by rw [B];rfl));clear B Z;go_wp2_with fail;go_roundg (gk-1)
      case rel=>exact ⟨j+1,by have:=F.out;omega,gnA,M.out,rfl⟩
      case measure=>have A:=F.out;have:=Y.out;omega
    .have tj:decide (j<L)=false:=(by simpa using W);have f:okB X (ps k) j=(ps k).all fun p=>X%p !=0:=(by rw [show j=(ps k).length by omega,Jz]);have d:ps (k+1)=if okB X (ps k) j then ps k++ [X] else ps k:=by
      have D:=V.out;rw [f,ps,mR,<-D]
     have A3:=J.size;have t:=Hd d;clear f A O d;cases B:okB X (ps k) j with
     |true=>
      have T:=Hd (show ps (k+1)=ps k++ [X] by rw [t.out,B];rfl);clear B;have N:=E;rw [<-C.out] at N;clear E;go_wp2_with (at_builtin;refine al rfl (.tmp 30) (.tmp 32) 278 rfl Ma rfl (N.alloc _) rfl (av.new' _ _ _ _ skA) rfA (by exact de _ rfl) mxA oA soA ?_);intro A4 A5 w4 A0 y;have A6:=(N.alloc (.cells #[Value.int .u64 (X:Int)] 105)).grown (J.alloc A3 _) (VU _) y soA;clear N y J;go_wp2_with fail;go_roundg (g0-1)
      case rel=>
       have A:=P.out;have D:=V.out;have e:=T.out;have el:(ps (k+1)).length=L+1:=(by rw [e,laA,<-C.out];rfl);refine ⟨k+1,X+1,L+1,A4,A5,oA,oA,el.symm,oA,rfl,gnA,?_,A6⟩;rw [el,e,VF];exact A0
      case measure=>have A:=P.out;omega
     |false=>
      have T:=Hd (show ps (k+1)=ps k by rw [t.out,B];rfl);clear B;go_wp2_with fail;go_roundg (g0-1)
      case rel=>
       have A:=P.out;have D:=V.out;exact ⟨k+1,X+1,L,_,_,oA,oA,by rw [T.out];exact C.out,A1,rfl,gnA,by rw [T.out];exact E,J⟩
      case measure=>have A:=P.out;omega
  .have tl:decide (L<n)=false:=(by simpa using q);obtain rfl:L=n:=oA;have C:=Hd G;clear A D G;go_wp2_with fail;go_ret;refine ⟨k,pa,pc,C.out.symm,rfl,?_,J⟩;have:=E;rw [<-C.out] at this;exact this
open Go.RowKit
def frF (third:Bool) (l:List Nat) (j:Nat):BitVec 32:=BitVec.ofNat 32 (hfx third (l.getD j 0) 40)
structure FrI (w:As) (H n t:Nat) (ty:TypeId) (third:Bool) (l:List Nat) (pa:Lt) (pc:Nat) (wr:As):Prop where
 res:Blk wr H (vA n fun _=> .int .u32 0) ty
 out:Blk wr (H+1) (vA n fun j=>if j<t then wv (frF third l j) else .int .u32 0) ty
 own:Own wr (H+2) 105 1 pa n pc (l.map nv)
 below:Below H w wr
def Fr1 (w:As) (H n:Nat) (ty:TypeId) (third:Bool) (l:List Nat) (pa:Lt) (pc:Nat) (f:Nat) (i:Value) (wr:As):Prop:=
 ∃t:Nat,f+t=n/\i= .int .i64 (t:Int)/\FrI w H n t ty third l pa pc wr
theorem Qi {k j:Nat} (h:(ps k).length=8) (A:j<8):frF false (ps k) j=hwd j:=by
 have e:(ps k).map (fun x=>BitVec.ofNat 32 (hfx false x 40))=Lm:=(by rw [nL h oA,Qf]);rw [hwd,<-e,frF,VG,VG,ZE,VJ oA];rfl
theorem Qh {k j:Nat} (h:(ps k).length=64) (A:j<64):frF true (ps k) j=kwd j:=by
 have e:(ps k).map (fun x=>BitVec.ofNat 32 (hfx true x 40))=Ll:=by
  rw [nL h oA,<-Qe];rfl
 rw [kwd,<-e,frF,VG,VG,ZE,VJ oA];rfl
theorem Aw (w:As):Calls prog 199 #[] w fun e w'=>e= .returned (.agg (vA 8 fun j=>wv (hwd j)))/\Below w.heap.size w w':=by
 obtain ⟨H,B⟩:=At w.heap.size;rw [<-B];have d:=Hd B;go_enter func199,ntmps199;go_wp2_with fail;refine (ql 8 _ oA).mono ?_;rintro e w1 ⟨k,pa,pc,F,rfl,G,C⟩;simp only [Wm] at G C;have L:FrI w H 8 0 267 false (ps k) pa pc w1:=by
  refine ⟨?_,?_,by rw [B];exact G,?_⟩
  .have:=(Blk.new2 w (vA 8 fun _=> .int .u32 0) 267 (.cells (vA 8 fun _=> .int .u32 0) 267)).below C oA;rw [B];exact this
  .have:=(Blk.new2' w (vA 8 fun _=> .int .u32 0) 267 (.cells (vA 8 fun _=> .int .u32 0) 267)).below C oA;rw [B];exact this.ofV fun i _=>by simp
  .rw [B];exact (((VW _ _).alloc (VU _) _).alloc skA _).trans (C.mono oA)
 have T:∀j,j<8->(ps k).getD j 0<65536:=fun j I=>by
  rw [nL F oA];revert j;decide
 have J:=Hd F;rw [<-B];clear G C F B;go_wp2_with fail;go_loopg [3] 8 (Fr1 w H 8 267 false (ps k) pa pc)
 case atStart=>exact ⟨0,oA,rfl,L⟩
 case round=>
  clear L;obtain ⟨t,D,rfl,A⟩:=hrel;by_cases E:t<8
  .have U:decide ((t:Int)<8)=true:=soA;have Z:(t:Int)<8:=oA;have M:=Hd D;clear D;obtain ⟨b,o,rfl,N⟩:=A.own.row t (by rw [lmA,J.out];exact E);obtain ⟨x,hx⟩:=At ((ps k).getD t 0);have R:wr.cell? ⟨b,o+t,none⟩=some (.int .u64 (x:Int)):=by
    rw [N,hx,WL,VG,VJ (by rw [J.out];exact E)];rfl
   have S:x<65536:=(by rw [hx];exact T t E);have V:=Hd hx;clear N hx;go_wp2_with fail;refine (zH x false _ S).mono ?_;rintro e w' ⟨rfl,rfl⟩;have W:=uK (hfx false x 40);have f3:=A.out.free;have X:=A.out.atV (show t<8 by omega) rfl;go_wp2_with fail;clear X f3 R W;go_roundg (gk-1)
   case rel=>
    have D:=M.out;refine ⟨t+1,oA,gnA,A.res.other _ _ (by show H≠H+1;omega),?_,A.own.setCell_lt _ _ (by show H+1<H+2;omega),A.below.setCell (by show H<=H+1;omega) _⟩;refine (A.out.setV E _).ofV fun j _=> ?_;by_cases e:j=t
    .subst e;rw [Vz rfl,Vz oA,frF,<-V.out];rfl
    .rw [VV e];by_cases O:j<t
     .rw [Vz O,Vz oA]
     .rw [VV O,VV oA]
   case measure=>have D:=M.out;omega
  .obtain rfl:t=8:=oA;have U:decide (((8:Nat):Int)<8)=false:=skA;clear D;have Y:Blk wr (H+1) (vA 8 fun j=>wv (hwd j)) 267:=A.out.ofV fun j I=>(by rw [Vz I,Qi J.out I]);have P:=A.res;go_wp2_with (first|refine ap rfl 267 yy _ rfl rfl Y (ay _ _) ?_|refine ae rfl 267 yy (.tmp 0) _ (cells:=vA 8 fun j=>wv (hwd j)) rfl rfl rfl P (ay _ _) (ay _ _) (dF fun _ _=>rfl) ?_);refine cT rfl yy rfl (P.setRow _) (ay _ _) rfl ⟨rfl,?_⟩;exact ak A.below (VU _) _
theorem xB (w:As):Calls prog 200 #[] w fun e w'=>e= .returned (.agg (vA 64 fun j=>wv (kwd j)))/\Below w.heap.size w w':=by
 obtain ⟨H,B⟩:=At w.heap.size;rw [<-B];have d:=Hd B;go_enter func200,ntmps200;go_wp2_with fail;refine (ql 64 _ oA).mono ?_;rintro e w1 ⟨k,pa,pc,F,rfl,G,C⟩;simp only [Wm] at G C;have L:FrI w H 64 0 268 true (ps k) pa pc w1:=by
  refine ⟨?_,?_,by rw [B];exact G,?_⟩
  .have:=(Blk.new2 w (vA 64 fun _=> .int .u32 0) 268 (.cells (vA 64 fun _=> .int .u32 0) 268)).below C oA;rw [B];exact this
  .have:=(Blk.new2' w (vA 64 fun _=> .int .u32 0) 268 (.cells (vA 64 fun _=> .int .u32 0) 268)).below C oA;rw [B];exact this.ofV fun i _=>by simp
  .rw [B];exact (((VW _ _).alloc (VU _) _).alloc skA _).trans (C.mono oA)
 have T:∀j,j<64->(ps k).getD j 0<65536:=fun j I=>by
  rw [nL F oA];revert j;decide
 have J:=Hd F;rw [<-B];clear G C F B;go_wp2_with fail;go_loopg [3] 64 (Fr1 w H 64 268 true (ps k) pa pc)
 case atStart=>exact ⟨0,oA,rfl,L⟩
 case round=>
  clear L;obtain ⟨t,D,rfl,A⟩:=hrel;by_cases E:t<64
  .have U:decide ((t:Int)<64)=true:=soA;have Z:(t:Int)<64:=oA;have M:=Hd D;clear D;obtain ⟨b,o,rfl,N⟩:=A.own.row t (by rw [lmA,J.out];exact E);obtain ⟨x,hx⟩:=At ((ps k).getD t 0);have R:wr.cell? ⟨b,o+t,none⟩=some (.int .u64 (x:Int)):=by
    rw [N,hx,WL,VG,VJ (by rw [J.out];exact E)];rfl
   have S:x<65536:=(by rw [hx];exact T t E);have V:=Hd hx;clear N hx;go_wp2_with fail;refine (zH x true _ S).mono ?_;rintro e w' ⟨rfl,rfl⟩;have W:=uK (hfx true x 40);have f3:=A.out.free;have X:=A.out.atV (show t<64 by omega) rfl;go_wp2_with fail;clear X f3 R W;go_roundg (gk-1)
   case rel=>
    have D:=M.out;refine ⟨t+1,oA,gnA,A.res.other _ _ (by show H≠H+1;omega),?_,A.own.setCell_lt _ _ (by show H+1<H+2;omega),A.below.setCell (by show H<=H+1;omega) _⟩;refine (A.out.setV E _).ofV fun j _=> ?_;by_cases e:j=t
    .subst e;rw [Vz rfl,Vz oA,frF,<-V.out];rfl
    .rw [VV e];by_cases O:j<t
     .rw [Vz O,Vz oA]
     .rw [VV O,VV oA]
   case measure=>have D:=M.out;omega
  .obtain rfl:t=64:=oA;have U:decide (((64:Nat):Int)<64)=false:=skA;clear D;have Y:Blk wr (H+1) (vA 64 fun j=>wv (kwd j)) 268:=A.out.ofV fun j I=>(by rw [Vz I,Qh J.out I]);have P:=A.res;go_wp2_with (first|refine ap rfl 268 Bu _ rfl rfl Y (ay _ _) ?_|refine ae rfl 268 Bu (.tmp 0) _ (cells:=vA 64 fun j=>wv (kwd j)) rfl rfl rfl P (ay _ _) (ay _ _) (dF fun _ _=>rfl) ?_);refine cT rfl Bu rfl (P.setRow _) (ay _ _) rfl ⟨rfl,?_⟩;exact ak A.below (VU _) _
open Go.RowKit
theorem Ei (c:UInt8):U8 c%(4294967296:Int)=U32 (c.toBitVec.setWidth 32):=by
 rw [<-ig,show U8 c%(4294967296:Int)=U8 c from by have:=BA c;have:=yA c;omega];have h:(U8 c)=((c.toNat:Nat):Int):=rfl;rw [h,XM,U32,Wi,Wn];have:=yA c;rw [h] at this;omega
theorem vh (a:BitVec 32):U32 a*(65536:Int)%(4294967296:Int)=U32 (a<<<16):=uJ a 16
theorem vg (a:BitVec 32):U32 a*(16777216:Int)%(4294967296:Int)=U32 (a<<<24):=uJ a 24
theorem LH (a b c d:BitVec 32):(((0#32<<<8|||a)<<<8|||b)<<<8|||c)<<<8|||d=a<<<24|||b<<<16|||c<<<8|||d:=by
 simp only [BitVec.shiftLeft_or_distrib,<-BitVec.shiftLeft_add];simp
theorem Ab (m:Le) (p:Nat) (h:p+3<m.length):nx m p 4=(m[p].toBitVec.setWidth 32)<<<24|||(m[p+1].toBitVec.setWidth 32)<<<16|||(m[p+2].toBitVec.setWidth 32)<<<8|||m[p+3].toBitVec.setWidth 32:=by
 rw [<-LH];simp only [nx,byt,VG,Yf];rw [VJ oA,VJ oA,VJ oA,VJ oA];rfl
attribute [local go_sem] tC vh vg Ei ig iz iA jl gG pE yz uD mv qB
theorem fV (x:BitVec 32) (n:Nat) (z:Int) (B:z=(n:Int)) (A:n∈Ji) (w:As):
  Calls prog 209 #[.int .u32 (U32 x),.int .u64 z] w fun e w'=>e= .returned (.int .u32 (U32 (rr x n)))/\w=w':=by
 subst B;simp only [Ji,Vk,Yu,Zg] at A;rcases A with rfl|rfl|rfl|rfl|rfl|rfl|rfl|rfl|rfl|rfl
 .go_enter func209,ntmps209;go_wp2_with fail;go_ret;exact ⟨by rw [<-gu x 7 33554432 128 rfl rfl,Xd];rfl,rfl⟩
 .go_enter func209,ntmps209;go_wp2_with fail;go_ret;exact ⟨by rw [<-gu x 18 16384 262144 rfl rfl,Xd];rfl,rfl⟩
 .go_enter func209,ntmps209;go_wp2_with fail;go_ret;exact ⟨by rw [<-gu x 17 32768 131072 rfl rfl,Xd];rfl,rfl⟩
 .go_enter func209,ntmps209;go_wp2_with fail;go_ret;exact ⟨by rw [<-gu x 19 8192 524288 rfl rfl,Xd];rfl,rfl⟩
 .go_enter func209,ntmps209;go_wp2_with fail;go_ret;exact ⟨by rw [<-gu x 6 67108864 64 rfl rfl,Xd];rfl,rfl⟩
 .go_enter func209,ntmps209;go_wp2_with fail;go_ret;exact ⟨by rw [<-gu x 11 2097152 2048 rfl rfl,Xd];rfl,rfl⟩
 .go_enter func209,ntmps209;go_wp2_with fail;go_ret;exact ⟨by rw [<-gu x 25 128 33554432 rfl rfl,Xd];rfl,rfl⟩
 .go_enter func209,ntmps209;go_wp2_with fail;go_ret;exact ⟨by rw [<-gu x 2 1073741824 4 rfl rfl,Xd];rfl,rfl⟩
 .go_enter func209,ntmps209;go_wp2_with fail;go_ret;exact ⟨by rw [<-gu x 13 524288 8192 rfl rfl,Xd];rfl,rfl⟩
 .go_enter func209,ntmps209;go_wp2_with fail;go_ret;exact ⟨by rw [<-gu x 22 1024 4194304 rfl rfl,Xd];rfl,rfl⟩
end
section
open Go.RowKit
attribute [local go_sem] tC vh vg Ei ig iz iA jl gG pE yz uD mv qB
structure RkI (w:As) (H:Nat) (h W:Nat->BitVec 32) (wr:As):Prop where
 hst:Blk wr H (vA 8 fun j=>wv (h j)) 267
 kst:Blk wr (H+1) (vA 64 fun j=>wv (kwd j)) 268
 res:Blk wr (H+2) (vA 8 fun _=> .int .u32 0) 267
 words:Blk wr (H+3) (vA 64 fun j=>wv (W j)) 268
 below:Below H w wr
theorem RkI.drew {w:As} {H:Nat} {h W:Nat->BitVec 32} {wr:As} (A:RkI w H h W wr):RkI w H h W wr.drew:=⟨A.hst.drew,A.kst.drew,A.res.drew,A.words.drew,A.below.drew⟩
theorem RkI.word {w:As} {H:Nat} {h W U:Nat->BitVec 32} {wr:As} (A:RkI w H h W wr) {t:Nat} (B:t<64) {x:BitVec 32} (C:∀j,U j=if j=t then x else W j):RkI w H h U (wr.setCell ⟨H+3,t,none⟩ (.int .u32 (U32 x))):=
 ⟨A.hst.other _ _ (by show H≠H+3;omega),A.kst.other _ _ (by show H+1≠H+3;omega),A.res.other _ _ (by show H+2≠H+3;omega),(A.words.setV B _).ofV fun j _=>by
  rw [C];by_cases e:j=t
  .rw [Vz e,Vz e];rfl
  .rw [VV e,VV e],A.below.setCell (by show H<=H+3;omega) _⟩
def Rk1 (w:As) (H:Nat) (h:Nat->BitVec 32) (m:Le) (f:Nat) (i:Value) (wr:As):Prop:=
 ∃t:Nat,f+t=16/\i= .int .i64 (t:Int)/\RkI w H h (fun j=>if j<t then wd m 0 j else 0#32) wr
def Rk2 (w:As) (H:Nat) (h w0:Nat->BitVec 32) (f:Nat) (i:Value) (wr:As):Prop:=
 ∃t k:Nat,f+t=64/\t=16+k/\i= .int .i64 (t:Int)/\RkI w H h (wx w0 k) wr
def Rk3 (w:As) (H V:Nat) (h u:Nat->BitVec 32) (f:Nat) (i:Value) (wr:As):Prop:=
 ∃t:Nat,f+t=64/\i= .int .i64 (t:Int)/\RkI w H h u wr/\Blk wr V (vA 8 fun j=>wv (vs h u t j)) 267
def Rk4 (w:As) (H V:Nat) (h u:Nat->BitVec 32) (f:Nat) (i:Value) (wr:As):Prop:=
 ∃t:Nat,f+t=8/\i= .int .i64 (t:Int)/\RkI w H (fun j=>if j<t then h j+vs h u 64 j else h j) u wr/\Blk wr V (vA 8 fun j=>wv (vs h u 64 j)) 267
theorem Nu (a b c:BitVec 32):a+b+c=a+c+b:=by rw [BitVec.add_assoc,BitVec.add_comm b,<-BitVec.add_assoc]
theorem AE (h:Nat->BitVec 32) (ba:Lt) (cap:Nat) (m:Le) (w:As) (hm:aj w ba m) (A1:m.length=64):
  Calls prog 201 #[.agg (vA 8 fun j=>wv (h j)),.slice ba 64 cap,.agg (vA 64 fun j=>wv (kwd j))] w fun e w'=>e= .returned (.agg (vA 8 fun j=>wv (cmp h (wd m 0) j)))/\Below w.heap.size w w':=by
 have B4:=jq Hb;obtain ⟨b,o,B5,hc⟩:=hm.at oA;subst B5;have HM:=Hd hm;have HL:=Hd A1;clear hm hc A1;go_enter func201,ntmps201;go_wp2_with fail;clear B4;refine ag (fun Z=>RkI w w.heap.size h (fun _=>0#32) Z) ⟨(Blk.new3 _ _ _ _ _).alloc _,(Blk.new3' _ _ _ _ _).alloc _,(Blk.new3'' _ _ _ _ _).alloc _,?_,cL⟩ ?_
 .have:=Blk.new (((w.alloc (.cells (vA 8 fun j=>wv (h j)) 267)).alloc (.cells (vA 64 fun j=>wv (kwd j)) 268)).alloc (.cells (vA 8 fun _=> .int .u32 0) 267)) (vA 64 fun _=> .int .u32 0) 268;simp at this;exact this
 rintro w0 A;obtain ⟨H,hH⟩:=At w.heap.size;rw [<-hH] at A⊢;have HH:=Hd hH;clear hH;go_loopg [8] 16 (Rk1 w H h m)
 case atStart=>exact ⟨0,oA,rfl,A⟩
 case round=>
  clear A;obtain ⟨t,C,rfl,A⟩:=hrel;by_cases I:t<16
  .have J:decide ((t:Int)<16)=true:=soA;have F:=Hd C;clear C;obtain ⟨p,hp⟩:=At (4*t);obtain ⟨O,A3⟩:=At (p+1);obtain ⟨P,A4⟩:=At (p+2);obtain ⟨R,A5⟩:=At (p+3);have e0:IntKind.i64.wrap (4*(t:Int))=(p:Int):=(by rw [VD _ oA];omega);have e1:IntKind.i64.wrap ((p:Int)+1)=(O:Int):=(by rw [VD _ oA];omega);have d:IntKind.i64.wrap ((p:Int)+2)=(P:Int):=(by rw [VD _ oA];omega);have q:IntKind.i64.wrap ((p:Int)+3)=(R:Int):=(by rw [VD _ oA];omega);have i0:(p:Int)<64:=oA;have i1:(O:Int)<64:=oA;have i2:(P:Int)<64:=oA;have i3:(R:Int)<64:=oA;have A6:aj wr (some ⟨b,o,none⟩) m:=HM.out.below (by rw [<-HH.out];exact A.below);have B6:=HL.out;have N:∀j,(S:j<m.length)->∀W,Old wr.drew W->W.cell? ⟨b,o+j,none⟩=some (.int .u8 (U8 m[j])):=fun j S W T=>by
    obtain ⟨b',o',e,hc⟩:=(A6.drew.below T).at oA;obtain ⟨rfl,rfl⟩:b=b'/\o=o':=(by simpa using e);exact hc j S
   have C0:=N p oA;have C1:=N O oA;have C2:=N P oA;have C3:=N R oA;have A7:(t:Int)<64:=oA;have M:nx m (4*t) 4=(m[p].toBitVec.setWidth 32)<<<24|||(m[O].toBitVec.setWidth 32)<<<16|||(m[P].toBitVec.setWidth 32)<<<8|||m[R].toBitVec.setWidth 32:=by
    subst A5 A4 A3;rw [<-hp];exact Ab m p oA
   obtain ⟨y0,A8⟩:=At (m[p]);obtain ⟨y1,A9⟩:=At (m[O]);obtain ⟨y2,BY⟩:=At (m[P]);obtain ⟨y3,B0⟩:=At (m[R]);rw [<-A8] at C0 M;rw [<-A9] at C1 M;rw [<-BY] at C2 M;rw [<-B0] at C3 M;have HW:=Hd M;clear A8 A9 BY B0 M N A6 B6 A5 A4 A3 hp;go_wp2_with fail;refine ah true Old Old.refl Old.trans (.step 0 (.step 1 (.step 2 (.step 3 (.step 4 (.step 5 (.step 6 (.step 7 (.step 8 (.step 9 (.step 10 (.step 11 (.step 12 (.step 13 (.step 14 (.step 15 (.step 16 (.step 17 (.step 18 (.step 19 (.step 20 (.step 21 (.step 22 (.step 23 (.step 24 (.step 25 (.step 26 (.step 27 (.step 28 (.step 29 (.step 30 (.step 31 (.step 32 (.step 33 (.step 34 (.step 35 .done)))))))))))))))))))))))))))))))))))) krA krA cdA ?_
   repeat refine txA ?_
   have E:=A.drew;have f3:=E.words.free;have U:=E.words.atV (show t<64 by omega) rfl;refine az rfl rfl rfA (fun K D=> ?_);go_wp2_with fail;refine aq ?_;clear f3 U;go_wp2_with fail;go_roundg (gk-1)
   case rel=>
    have C:=F.out;refine ⟨t+1,oA,gnA,E.word oA fun j=> ?_⟩;by_cases e:j=t
    .subst e;rw [Vz rfl,Vz oA,wd,VN,HW.out]
    .rw [VV e];by_cases d:j<t
     .rw [Vz d,Vz oA]
     .rw [VV d,VV oA]
   case measure=>have C:=F.out;omega
  .obtain rfl:t=16:=oA;have J:decide (((16:Nat):Int)<16)=false:=skA;clear C;obtain ⟨y,s⟩:∃u:Nat->BitVec 32,u=fun j=>if j<16 then wd m 0 j else 0#32:=⟨_,rfl⟩;rw [<-s] at A;go_wp2_with fail;go_loopg [9,10,11,12,13] 48 (fun f i _ _ _ _ wr=>Rk2 w H h y f i wr)
   case atStart=>exact ⟨16,0,oA,oA,rfl,A⟩
   case round=>
    clear A;obtain ⟨t,k,C,X,rfl,A⟩:=hrel;by_cases I:t<64
    .have J:decide ((t:Int)<64)=true:=soA;have F:=Hd C;clear C;obtain ⟨k1,B1⟩:=At (k+1);obtain ⟨Y,B2⟩:=At (k+9);obtain ⟨G,A2⟩:=At (k+14);have e1:IntKind.i64.wrap ((t:Int)-15)=(k1:Int):=(by rw [VD _ oA];omega);have d:IntKind.i64.wrap ((t:Int)-2)=(G:Int):=(by rw [VD _ oA];omega);have q:IntKind.i64.wrap ((t:Int)-16)=(k:Int):=(by rw [VD _ oA];omega);have e4:IntKind.i64.wrap ((t:Int)-7)=(Y:Int):=(by rw [VD _ oA];omega);have i1:(k1:Int)<64:=oA;have i2:(G:Int)<64:=oA;have i3:(k:Int)<64:=oA;have i4:(Y:Int)<64:=oA;have i5:(t:Int)<64:=oA;obtain ⟨u,L⟩:=At (wx y k);rw [<-L] at A;have c1:wr.cell? ⟨H+3,k1,none⟩=some (.int .u32 (U32 (u k1))):=A.words.atV oA rfl;have c2:wr.cell? ⟨H+3,G,none⟩=some (.int .u32 (U32 (u G))):=A.words.atV oA rfl;have D3:∀W,Old wr.drew W->W.cell? ⟨H+3,k,none⟩=some (.int .u32 (U32 (u k))):=fun W h=>(A.words.drew.old h).atV oA rfl;have D4:∀W,Old wr.drew W->W.cell? ⟨H+3,Y,none⟩=some (.int .u32 (U32 (u Y))):=fun W h=>(A.words.drew.old h).atV oA rfl;have HU:=Hd L;have HK:=Hd X;have B7:=Hd B1;have B9:=Hd B2;have B3:=Hd A2;have f1:(t:Int)-15=(k1:Int):=oA;have f2:(t:Int)-2=(G:Int):=oA;clear L X B1 B2 A2;go_wp2_with fail;clear c1 c2;refine (fV (u k1) 7 7 rfl dcA _).mono ?_;rintro e w' ⟨rfl,rfl⟩;go_wp2_with fail;refine (fV (u k1) 18 18 rfl dcA _).mono ?_;rintro e w' ⟨rfl,rfl⟩;go_wp2_with fail;refine (fV (u G) 17 17 rfl dcA _).mono ?_;rintro e w' ⟨rfl,rfl⟩;go_wp2_with fail;refine (fV (u G) 19 19 rfl dcA _).mono ?_;rintro e w' ⟨rfl,rfl⟩;go_wp2_with fail;clear f1 f2;refine ah true Old Old.refl Old.trans (.step 0 (.step 1 (.step 2 (.step 3 (.step 4 (.step 5 (.step 6 (.step 7 (.step 8 (.step 9 (.step 10 (.step 11 (.step 12 (.step 13 (.step 14 (.step 15 .done)))))))))))))))) krA krA cdA ?_
     repeat refine txA ?_
     have E:=A.drew;have f3:=E.words.free;have U:=E.words.atV (show t<64 by omega) rfl;refine az rfl rfl rfA (fun K D=> ?_);go_wp2_with fail;refine aq ?_;clear f3 U;go_wp2_with fail;go_roundg (gk-1)
     case rel=>
      have C:=F.out;have X:=HK.out;refine ⟨t+1,k+1,oA,oA,gnA,E.word oA fun j=> ?_⟩;simp only [wx];rw [<-HU.out,<-X,show t-16=k by omega,show t-7=Y by have:=B9.out;omega,show t-15=k1 by have:=B7.out;omega,show t-2=G by have:=B3.out;omega];by_cases e:j=t
      .rw [Vz e,Vz e,Nu (u k)];rfl
      .rw [VV e,VV e]
     case measure=>have C:=F.out;omega
    .obtain rfl:t=64:=oA;have J:decide (((64:Nat):Int)<64)=false:=skA;obtain rfl:k=48:=oA;clear C X;obtain ⟨u,L⟩:=At (wx y 48);rw [<-L] at A;have HU:=Hd L;have HW:=Hd s;clear L s;have r:=A.hst;go_upto_region 15 with (first|refine ap rfl 267 yy _ rfl rfl r (ay _ _) ?_|refine ae rfl 267 yy (.tmp 14) _ (cells:=vA 8 fun j=>wv (h j)) rfl rfl rfl (Blk.new _ _ _) (ay _ _) rfl (dF fun _ _=>rfl) ?_);obtain ⟨V,B⟩:=At wr.heap.size;have C4:H+3<V:=(by have:=A.words.lt;omega);have A0:=Blk.new wr (vA 8 fun _=> .int .u32 0) 267;rw [<-B] at A0⊢;refine ag (fun Z=>RkI w H h u Z/\Blk Z V (vA 8 fun j=>wv (h j)) 267) ⟨⟨(A.hst.alloc _).setRow_other _ _ oA,(A.kst.alloc _).setRow_other _ _ oA,(A.res.alloc _).setRow_other _ _ oA,(A.words.alloc _).setRow_other _ _ oA,ak (A.below.alloc oA _) oA _⟩,A0.setRow _⟩ ?_;clear A r B A0;rintro w5 ⟨A,B⟩;go_wp2_with fail;go_loopg [15,16,17,18,19] 64 (fun f i _ _ _ _ wr=>Rk3 w H V h u f i wr)
     case atStart=>exact ⟨0,oA,rfl,A,B⟩
     case round=>
      clear A B;obtain ⟨t,C,rfl,A,B⟩:=hrel;by_cases I:t<64
      .have J:decide ((t:Int)<64)=true:=soA;have A7:(t:Int)<64:=oA;have F:=Hd C;clear C;obtain ⟨v,hv⟩:=At (vs h u t);rw [<-hv] at B;have HV:=Hd hv;clear hv;have d0:wr.cell? ⟨V,0,none⟩=some (.int .u32 (U32 (v 0))):=B.atV oA rfl;have d4:wr.cell? ⟨V,4,none⟩=some (.int .u32 (U32 (v 4))):=B.atV oA rfl;go_upto_region 20 with fail;clear d0 d4;have C5:∀W,Old wr.drew W->W.cell? ⟨V,5,none⟩=some (.int .u32 (U32 (v 5))):=fun W h=>(B.drew.old h).atV oA rfl;have C6:∀W,Old wr.drew W->W.cell? ⟨V,6,none⟩=some (.int .u32 (U32 (v 6))):=fun W h=>(B.drew.old h).atV oA rfl;have C7:∀W,Old wr.drew W->W.cell? ⟨V,7,none⟩=some (.int .u32 (U32 (v 7))):=fun W h=>(B.drew.old h).atV oA rfl;have CK:∀W,Old wr.drew W->W.cell? ⟨H+1,t,none⟩=some (.int .u32 (U32 (kwd t))):=fun W h=>(A.kst.drew.old h).atV I rfl;have CW:∀W,Old wr.drew W->W.cell? ⟨H+3,t,none⟩=some (.int .u32 (U32 (u t))):=fun W h=>(A.words.drew.old h).atV I rfl;have D1:∀W,Old wr.drew.drew W->W.cell? ⟨V,1,none⟩=some (.int .u32 (U32 (v 1))):=fun W h=>(B.drew.drew.old h).atV oA rfl;have D2:∀W,Old wr.drew.drew W->W.cell? ⟨V,2,none⟩=some (.int .u32 (U32 (v 2))):=fun W h=>(B.drew.drew.old h).atV oA rfl;refine aB (0::1::2::4::7::11::12::13::14::15::16::17::18::19::20::22::23::24::26::27::28::3::5::6::8::9::10::21::25::29::30::[]) krA krA cdA ?_
       repeat refine lxA ?_
       refine bh rfl rfl rfA (fun K D=> ?_);go_wp2_with fail;refine (fV (v 4) 6 6 rfl dcA _).mono ?_;rintro e w' ⟨rfl,rfl⟩;go_wp2_with fail;refine D _ _ (Old.refl _) ?_;clear D K
       repeat refine lxA ?_
       refine bh rfl rfl rfA (fun K D=> ?_);go_wp2_with fail;refine (fV (v 4) 11 11 rfl dcA _).mono ?_;rintro e w' ⟨rfl,rfl⟩;go_wp2_with fail;refine D _ _ (Old.refl _) ?_;clear D K
       repeat refine lxA ?_
       refine bh rfl rfl rfA (fun K D=> ?_);go_wp2_with fail;refine (fV (v 4) 25 25 rfl dcA _).mono ?_;rintro e w' ⟨rfl,rfl⟩;go_wp2_with fail;refine D _ _ (Old.refl _) ?_;clear D K
       repeat refine lxA ?_
       refine bJ ?_;clear C5 C6 C7 CK CW;go_wp2_with fail;refine aB (0::2::5::8::9::10::11::12::13::14::15::16::17::18::19::20::21::22::1::3::4::6::7::23::24::[]) krA krA cdA ?_
       repeat refine lxA ?_
       refine bh rfl rfl rfA (fun K D=> ?_);go_wp2_with fail;refine (fV (v 0) 2 2 rfl dcA _).mono ?_;rintro e w' ⟨rfl,rfl⟩;go_wp2_with fail;refine D _ _ (Old.refl _) ?_;clear D K
       repeat refine lxA ?_
       refine bh rfl rfl rfA (fun K D=> ?_);go_wp2_with fail;refine (fV (v 0) 13 13 rfl dcA _).mono ?_;rintro e w' ⟨rfl,rfl⟩;go_wp2_with fail;refine D _ _ (Old.refl _) ?_;clear D K
       repeat refine lxA ?_
       refine bh rfl rfl rfA (fun K D=> ?_);go_wp2_with fail;refine (fV (v 0) 22 22 rfl dcA _).mono ?_;rintro e w' ⟨rfl,rfl⟩;go_wp2_with fail;refine D _ _ (Old.refl _) ?_;clear D K
       repeat refine lxA ?_
       refine bJ ?_;clear D1 D2;have A:=A.drew.drew;have B:=B.drew.drew;have g0:wr.drew.drew.cell? ⟨V,0,none⟩=some (.int .u32 (U32 (v 0))):=B.atV oA rfl;have g1:wr.drew.drew.cell? ⟨V,1,none⟩=some (.int .u32 (U32 (v 1))):=B.atV oA rfl;have g2:wr.drew.drew.cell? ⟨V,2,none⟩=some (.int .u32 (U32 (v 2))):=B.atV oA rfl;have g3:wr.drew.drew.cell? ⟨V,3,none⟩=some (.int .u32 (U32 (v 3))):=B.atV oA rfl;have g4:wr.drew.drew.cell? ⟨V,4,none⟩=some (.int .u32 (U32 (v 4))):=B.atV oA rfl;have g5:wr.drew.drew.cell? ⟨V,5,none⟩=some (.int .u32 (U32 (v 5))):=B.atV oA rfl;have g6:wr.drew.drew.cell? ⟨V,6,none⟩=some (.int .u32 (U32 (v 6))):=B.atV oA rfl;go_wp2_with (refine ae rfl 267 yy (.tmp 14) _ (cells:=vA 8 fun j=>wv (rd v (kwd t) (u t) j)) rfl rfl rfl B (ay _ _) (ay _ _) (dF fun _ _=>rfl) ?_);clear g0 g1 g2 g3 g4 g5 g6;go_wp2_with fail;go_roundg (gk-1)
       case rel=>
        have C:=F.out;refine ⟨t+1,oA,gnA,⟨A.hst.setRow_other _ _ oA,A.kst.setRow_other _ _ oA,A.res.setRow_other _ _ oA,A.words.setRow_other _ _ oA,ak A.below oA _⟩,?_⟩;rw [vs,<-HV.out];exact B.setRow _
       case measure=>have C:=F.out;omega
      .obtain rfl:t=64:=oA;have J:decide (((64:Nat):Int)<64)=false:=skA;clear C;go_wp2_with fail;go_loopg [20] 8 (Rk4 w H V h u)
       case atStart=>exact ⟨0,oA,rfl,A,B⟩
       case round=>
        clear A B;obtain ⟨t,C,rfl,A,B⟩:=hrel;by_cases I:t<8
        .have J:decide ((t:Int)<8)=true:=soA;have A7:(t:Int)<8:=oA;have F:=Hd C;clear C;have C1:∀W,Old wr.drew W->W.cell? ⟨H,t,none⟩=some (.int .u32 (U32 (h t))):=fun W T=>(A.hst.drew.old T).atV oA (by rw [VV oA];rfl);have C2:∀W,Old wr.drew W->W.cell? ⟨V,t,none⟩=some (.int .u32 (U32 (vs h u 64 t))):=fun W T=>(B.drew.old T).atV oA rfl;go_wp2_with fail;refine ah true Old Old.refl Old.trans (.step 0 (.step 1 (.step 2 (.step 3 (.step 4 (.step 5 (.step 6 (.step 7 (.step 8 (.step 9 .done)))))))))) krA krA cdA ?_
         repeat refine txA ?_
         have E:=A.drew;have f3:=E.hst.free;have U:=E.hst.atV (show t<8 by omega) rfl;refine az rfl rfl rfA (fun K D=> ?_);go_wp2_with fail;refine aq ?_;clear f3 U;go_wp2_with fail;go_roundg (gk-1)
         case rel=>
          have C:=F.out;refine ⟨t+1,oA,gnA,⟨?_,E.kst.other _ _ (by show H+1≠H;omega),E.res.other _ _ (by show H+2≠H;omega),E.words.other _ _ (by show H+3≠H;omega),E.below.setCell (by show H<=H;omega) _⟩,B.drew.other _ _ (by show V≠H;omega)⟩;refine (E.hst.setV oA _).ofV fun j _=> ?_;by_cases e:j=t
          .subst e;rw [Vz rfl,Vz oA];rfl
          .rw [VV e];by_cases q:j<t
           .rw [Vz q,Vz oA]
           .rw [VV q,VV oA]
         case measure=>have C:=F.out;omega
        .obtain rfl:t=8:=oA;have J:decide (((8:Nat):Int)<8)=false:=skA;clear C;have r:Blk wr H (vA 8 fun j=>wv (cmp h (wd m 0) j)) 267:=A.hst.ofV fun j S=>by
          rw [Vz S,Ik (w':=wd m 0) HU.out (fun t I=>(Wv HW.out t).trans (Vz I)) j S]
         have hR:=A.res;go_wp2_with (first|refine ap rfl 267 yy _ rfl rfl r (ay _ _) ?_|refine ae rfl 267 yy (.tmp 6) _ (cells:=vA 8 fun j=>wv (cmp h (wd m 0) j)) rfl rfl rfl hR (ay _ _) (ay _ _) (dF fun _ _=>rfl) ?_);refine cT rfl yy rfl (hR.setRow _) (ay _ _) rfl ⟨rfl,?_⟩;rw [<-HH.out];exact ak A.below oA _
end
section
open Go.RowKit
theorem xz {t e:TypeId} {P:Program} (A:P.underlying t=some (.slice e)) (C:(P.info? e).map (·.size)=some 1) (g n c k h:Nat) (D:k<h) (E:h<=c) (W:As):
  (Instr.sliceAt t (.slice (some ⟨g,0,none⟩) n c) (some (.int .i64 (k:Int))) (some (.int .i64 (h:Int))) none).run P W= .ok (.slice (some ⟨g,k,none⟩) (h-k) (c-k)) W:=by
 have B:P.elem t=e:=(by simp [Program.elem,A]);rw [ZG W t _ _ _ _ (by rw [B];exact A)];rw [run_slice_lh W t _ n c (by rw [B];exact A) .i64 .i64 (k:Int) (h:Int) oA oA oA,B,eI C];have:¬c=k:=oA;simp [sliced,WA,this]
structure SrI (w1:As) (B n:Nat) (S:Le) (a:Lt) (c:Nat) (wr:As):Prop where
 own:Own wr B 5 1 a n c (S.map bv)
 below:Below B w1 wr
def Sr1 (w1:As) (B L:Nat) (l:Le) (f:Nat) (v:Value) (wr:As):Prop:=
 ∃(z n:Nat) (a:Lt) (c:Nat),f+z=zN L/\n=L+1+z/\v= .slice a n c/\SrI w1 B n (pdl l z) a c wr
def Sr2 (w1:As) (B L:Nat) (S:Le) (f:Nat) (v i:Value) (wr:As):Prop:=
 ∃(k n:Nat) (a:Lt) (c:Nat),f+k=8/\n=S.length+k/\i= .int .i64 (7-(k:Int))/\v= .slice a n c/\SrI w1 B n (S++(eY (L*8)).take k) a c wr
structure SrJ (w1:As) (B V K:Nat) (h:Nat->BitVec 32) (S:Le) (g:Nat) (wr:As):Prop where
 row:aj wr (some ⟨g,0,none⟩) S
 hst:Blk wr V (vA 8 fun j=>wv (h j)) 267
 kst:Blk wr K (vA 64 fun j=>wv (kwd j)) 268
 below:Below B w1 wr
def Sr3 (w1:As) (B V K N:Nat) (S:Le) (g:Nat) (f:Nat) (at_:Value) (wr:As):Prop:=
 ∃i:Nat,f+i=N/\at_= .int .i64 (64*(i:Int))/\SrJ w1 B V K (stt S i) S g wr
def Sr4 (w1:As) (B V O:Nat) (l:Le) (f:Nat) (i:Value) (wr:As):Prop:=
 ∃k:Nat,f+k=32/\i= .int .i64 (k:Int)/\Blk wr V (vA 8 fun j=>wv (Ea l j)) 267/\Blk wr O (vA 32 fun j=>if j<k then bv (dgb l j) else .int .u8 0) 170/\Below B w1 wr
theorem Gp (l:Le):(nu l).length=64*((nu l).length/64):=by
 rw [nu,laA,aM,jN];unfold zN;omega
theorem Ey (n k:Nat) (A:k<8):(eY n).take (k+1)=(eY n).take k++ [jm n k]:=by
 rw [Vj (by rw [aM];exact A)];simp [eY]
theorem tJ (l:Le) (la:Lt) (cap L:Nat) (w:As) (U:aj w la l) (B7:l.length=L) (hl:L<140737488353000):
  Calls prog 190 #[.slice la L cap] w fun e w'=>e= .returned (.agg (dgA l))/\Below w.heap.size w w':=by
 have HL:=Hd B7;clear B7;obtain ⟨H,Y⟩:=At w.heap.size;obtain ⟨B,hB⟩:=At (H+1);rw [<-Y];go_enter func190,ntmps190;go_upto_region 1 with fail;rw [<-Y];refine ag (fun F=>Blk F H (vA 32 fun _=> .int .u8 0) 170/\aj F la l/\Below H w F/\F.heap.size=B) ⟨by rw [Y];exact Blk.new _ _ _,U.alloc _,by rw [Y];exact cL,by simp [hB,Y]⟩ ?_;clear U;rintro w1 ⟨hR,U,E1,F4⟩;have HH:=Hd Y;have HB:=Hd hB;clear Y hB;go_wp2_with (at_builtin;refine al rfl (.tmp 11) (.tmp 12) 22 rfl dS rfl (Own.nil _ B _ _) rfl U (by rw [lmA,HL.out,Vr]) (cV _) mxA oA oA ?_);intro a2 c2 w2 A6 CW;have A9:Below B w1 w2:=(Own.nil w1 B 5 1).grown (VW _ _) (VU _) CW oA;have E2:=A9.size;clear CW U;go_wp2_with (at_builtin;refine al rfl (.tmp 14) (.tmp 15) 22 rfl dS rfl (A6.alloc _) rfl (av.new' _ _ _ _ skA) rfA (by exact de _ rfl) mxA oA soA ?_);intro a3 c3 w3 B9 C0;have C1:=(A6.alloc (.cells #[Value.int .u8 128] 5)).grown (A9.alloc oA _) (VU _) C0 soA;have C2:SrI w1 B (L+1) (pdl l 0) a3 c3 w3:=⟨by
  have e:(pdl l 0).map bv=l.map bv++ [Value.int .u8 128]:=(by simp [pdl,bv,U8]);rw [e];exact B9,C1⟩
 clear A6 B9 C0 A9 C1 E2;go_wp2_with fail;go_loopg [3] (zN L) (Sr1 w1 B L l)
 case atStart=>exact ⟨0,L+1,a3,c3,oA,oA,rfl,C2⟩
 case round=>
  clear C2;obtain ⟨z,n,a,c,C,G,rfl,A⟩:=hrel;obtain ⟨q,Z⟩:=At (n%64);have BY:(n:Int)%64=(q:Int):=oA;have hz:z<=zN L:=oA;have B0:(q=56↔z=zN L):=(by unfold zN at hz⊢;omega);have F5:=A.below.size;have hZ:zN L<64:=(by unfold zN;omega);have HF:=Hd C;have HN:=Hd G;clear C;by_cases C3:q=56
  .have HZ:=Hd (B0.1 C3);subst C3;obtain ⟨S,D⟩:=At (pdl l (zN L));have C4:SrI w1 B n S a c wr:=(by rw [D,<-HZ.out];exact A);have C5:n=S.length:=(by rw [D,jN,<-HZ.out,HL.out];exact G);have F6:S.length<140737488354000:=oA;have HS:=Hd D;have E3:=Hd C5;have D9:(n:Int)%64=56:=(by simpa using BY);clear G Z BY hz B0 hZ A D C5;go_wp2_with fail;go_loopg [3,5] 8 (Sr2 w1 B L S)
   case atStart=>exact ⟨0,n,a,c,oA,by have:=E3.out;omega,rfl,rfl,by simpa using C4⟩
   case round=>
    clear C4 D9;obtain ⟨k,n,a,c,C,G,rfl,rfl,A⟩:=hrel;by_cases hk:k<8
    .obtain ⟨j,M⟩:=At (7-k);have C6:7-(k:Int)=(j:Int):=oA;rw [C6];obtain ⟨s,hs⟩:=At (8*j);have E4:8*(j:Int)=(s:Int):=oA;have C7:s=56-8*k:=oA;have F7:(j:Int)<8:=oA;have F8:(s:Int)<64:=oA;have tt:decide ((0:Int)<=(j:Int))=true:=skA;have C8:=Hd C;have HJ:=Hd M;have E5:=Hd C7;have F2:=A.below.size;have E6:n<140737488354100:=oA;have E7:=Hd G;clear C M hs C7 C6 G;go_wp2_with (at_builtin;refine al rfl (.tmp 32) (.tmp 39) 22 rfl dS rfl (A.own.alloc _) rfl (av.new' _ _ _ _ skA) rfA (by exact de _ rfl) mxA oA soA ?_);intro a4 c4 w4 A2 y;have B1:=(A.own.alloc (.cells #[Value.int .u8 ((L:Int)*8/2^s%256)] 5)).grown (A.below.alloc oA _) (VU _) y soA;clear y;go_wp2_with fail;go_roundg (gk-1)
     case rel=>
      have C:=C8.out;have G:=E7.out;have M:=HJ.out;refine ⟨k+1,n+1,a4,c4,oA,oA,?_,rfl,⟨?_,B1⟩⟩
      .go_num
      .rw [ks (L*8) L k _ rfl (by rw [<-E5.out];norm_cast)] at A2;rw [Ey _ _ hk];simp only [VF,WB,WG,XP];exact A2
     case measure=>have C:=C8.out;omega
    .obtain rfl:k=8:=oA;rw [show 7-((8:Nat):Int)= -1 from rfl];have hF:nu l=S++eY (L*8):=(by rw [nu,HL.out,HS.out]);have A3:SrI w1 B n (nu l) a c wr:=by
      have e:(eY (L*8)).take 8=eY (L*8):=VZ (by rw [aM];exact VU _);rw [hF];rw [e] at A;exact A
     have C9:n=(nu l).length:=(by rw [hF,laA,aM];exact G);have F9:n<140737488354100:=oA;have A4:=Hd C9;clear A hF G C C9;go_wp2_with fail;refine (Aw _).mono ?_;rintro e b ⟨rfl,I⟩;go_upto_region 12 with (refine ae rfl 267 yy (.tmp 6) _ (cells:=vA 8 fun j=>wv (hwd j)) rfl rfl rfl (Blk.new _ _ _) (ay _ _) rfl (dF fun _ _=>rfl) ?_);obtain ⟨V,hV⟩:=At b.heap.size;have B2:=A3.below.size;have A7:=I.size;have DO:B<=V:=oA;have A8:SrI w1 B n (nu l) a c b:=⟨A3.own.old I,A3.below.trans (I.mono oA)⟩;have J:=Blk.new b (vA 8 fun _=> .int .u32 0) 267;rw [<-hV] at J⊢;refine ag (fun F=>SrI w1 B n (nu l) a c F/\Blk F V (vA 8 fun j=>wv (hwd j)) 267) ⟨⟨(A8.own.alloc _).setRow_apart J dcA _,ak (A8.below.alloc oA _) DO _⟩,J.setRow _⟩ ?_;clear A3 A8 I hV J B2 A7;rintro w6 ⟨A,D⟩;go_wp2_with fail;refine (xB _).mono ?_;rintro e b ⟨rfl,I⟩;go_upto_region 13 with (refine ae rfl 268 Bu (.tmp 7) _ (cells:=vA 64 fun j=>wv (kwd j)) rfl rfl rfl (Blk.new _ _ _) (ay _ _) rfl (dF fun _ _=>rfl) ?_);obtain ⟨Kb,D0⟩:=At b.heap.size;have B2:=A.below.size;have A7:=I.size;have G0:V<Kb:=(by have:=D.lt;omega);have B3:SrI w1 B n (nu l) a c b:=⟨A.own.old I,A.below.trans (I.mono oA)⟩;have D1:=D.old I;have J:=Blk.new b (vA 64 fun _=> .int .u32 0) 268;rw [<-D0] at J⊢;obtain ⟨g,G1,rfl,G2,CK,-,-⟩:=A.own.blk (by rw [A4.out,nu,laA,aM];omega);refine ag (fun F=>SrI w1 B n (nu l) (some ⟨g,0,none⟩) c F/\Blk F V (vA 8 fun j=>wv (hwd j)) 267/\Blk F Kb (vA 64 fun j=>wv (kwd j)) 268) ⟨⟨(B3.own.alloc _).setRow_apart J dcA _,ak (B3.below.alloc oA _) oA _⟩,(D1.alloc _).setRow_other _ _ oA,J.setRow _⟩ ?_;have G3:g≠V:=Blk.ne CK D dcA;clear A B3 I D0 J B2 A7 D D1 CK;rintro w7 ⟨A,D,A5⟩;have G4:=A.own.le;have A0:=A.own.cap_le;unfold maxLen at A0;have E:SrJ w1 B V Kb (stt (nu l) 0) (nu l) g w7:=⟨A.own.row,D,A5,A.below⟩;have X:n=64*(n/64):=(by rw [A4.out];exact Gp l);obtain ⟨N,hN⟩:=At (n/64);rw [<-hN] at X;have HN:=Hd hN;have D2:=Hd X;clear hN A D A5 X;go_wp2_with fail;go_loopg [8] N (Sr3 w1 B V Kb N (nu l) g)
     case atStart=>exact ⟨0,oA,rfl,E⟩
     case round=>
      clear E;obtain ⟨i,C,rfl,E⟩:=hrel;by_cases hi:i<N
      .have X:=D2.out;obtain ⟨p,R⟩:=At (64*i);obtain ⟨o,B4⟩:=At (p+64);have A1:64*(i:Int)=(p:Int):=oA;rw [A1];have E8:o<=n:=oA;have tt:decide (p<n)=true:=soA;have e2:IntKind.i64.wrap ((p:Int)+64)=(o:Int):=(by rw [VD _ oA];omega);have e3:(p:Int)+64=(o:Int):=oA;have hcut:∀W,(Instr.sliceAt 22 (.slice (some ⟨g,0,none⟩) n c) (some (.int .i64 (p:Int))) (some (.int .i64 (o:Int))) none).run prog W= .ok (.slice (some ⟨g,p,none⟩) 64 (c-p)) W:=fun W=>by
        have:=xz (P:=prog) underlying22 jI g n c p o oA oA W;rwa [show o-p=64 by omega] at this
       have r:aj wr (some ⟨g,p,none⟩) (((nu l).drop p).take 64):=by
        have h1:=av.drop p E.row;rw [VN,<-YG] at h1;have h2:=av.take 64 h1;rwa [<-WB] at h2
       have D3:(((nu l).drop p).take 64).length=64:=(by rw [ltA,ldA,<-A4.out];omega);have A0:∀j,j<8->cmp (stt (nu l) i) (wd (((nu l).drop p).take 64) 0) j=stt (nu l) (i+1) j:=fun j M=>by
        rw [stt];refine zQ (fun _ _=>rfl) (fun t ht=>IP (fun q Z=> ?_) ht) j M;unfold byt;rw [VN,VG,VG,WF Z,Wh,R]
       obtain ⟨m,U⟩:=At (((nu l).drop p).take 64);rw [<-U] at r D3 A0;have E9:=Hd A0;have D4:=Hd C;have HP:=Hd R;have F0:=Hd B4;clear U A0 C R B4 E8 e3 X;go_wp2_with fail;refine ah true Old Old.refl Old.trans (.step 0 (.step 1 (.step 2 (.step 3 (.step 4 (.step 5 (.step 6 (.step 7 (.step 8 .done))))))))) krA krA cdA ?_;refine bM (v:= .agg (vA 8 fun j=>wv (stt (nu l) i j))) rfl rfl rfA (fun W hW=>aI 267 yy _ rfl rfl rfl (E.hst.drew.old hW).cells (df _ _)) ?_;simp only [Act.put,sTA,List.set]
       repeat refine txA ?_
       refine bM (v:= .agg (vA 64 fun j=>wv (kwd j))) rfl rfl rfA (fun W hW=>aI 268 Bu _ rfl rfl rfl (E.kst.drew.old hW).cells (df _ _)) ?_;simp only [Act.put,sTA,List.set];refine am rfl rfl rfA (fun K hK=> ?_);go_wp2_with fail;refine (AE (stt (nu l) i) _ (c-p) m _ r.drew D3).mono ?_;rintro e w8 ⟨rfl,f⟩;go_wp2_with fail;refine hK _ _ f ?_;clear hK K;have B5:=E.hst.drew.old f;have EE:=E.below.size;have EQ:=E.hst.lt;refine az rfl rfl rfA (fun K' D5=> ?_);refine bq 267 yy _ _ rfl rfl rfl B5 (ay _ _) (by rw [ay];omega) (dF fun _ _=>rfl) ?_;refine D5 _ _ ?_;clear D5;refine aq ?_;rw [kU _ _ (by rw [ay,ay])];refine kr (fun F=>SrJ w1 B V Kb (stt (nu l) (i+1)) (nu l) g F) ⟨?_,(B5.setRow _).ofV fun j M=>by rw [E9.out j M],(E.kst.drew.old f).setRow_other _ _ oA,ak (E.below.drew.trans (f.mono soA)) DO _⟩ ?_
       .exact (E.row.drew.below f).grown (qy (Wd _ _) _) soA
       clear E f B5 EE EQ hcut r;rintro w9 E;go_wp2_with fail;go_roundg (gk-1)
       case rel=>
        have C:=D4.out;have R:=HP.out;have B4:=F0.out;exact ⟨i+1,oA,gnA,E⟩
       case measure=>have C:=D4.out;omega
      .obtain rfl:i=N:=oA;have X:=D2.out;obtain ⟨p,R⟩:=At (64*i);have A1:64*(i:Int)=(p:Int):=oA;rw [A1];have tt:decide (p<n)=false:=soA;have hE:stt (nu l) i=Ea l:=(by rw [Ea,<-A4.out,<-HN.out]);rw [hE] at E;obtain ⟨r,D,A5,d⟩:=E;clear r A5 hE X C A1 R;go_wp2_with fail;obtain ⟨O,T⟩:=At wr.heap.size;have G5:V<O:=(by have:=D.lt;omega);have B6:=Blk.new wr (vA 32 fun _=> .int .u8 0) 170;rw [<-T] at B6⊢;have E0:=d.size;refine ag (fun F=>Sr4 w1 B V O l 32 (.int .i64 0) F) ⟨0,oA,rfl,D.alloc _,B6.ofV fun j _=>by rw [VV oA],d.alloc oA _⟩ ?_;clear T B6 D d E0;rintro w8 D6;go_loopg [10] 32 (Sr4 w1 B V O l)
       case atStart=>exact D6
       case round=>
        clear D6;obtain ⟨k,C,rfl,D,T,d⟩:=hrel;by_cases hk:k<32
        .have tk:decide ((k:Int)<32)=true:=soA;have G6:(k:Int)<32:=oA;obtain ⟨p,R⟩:=At (k/4);have A1:(k:Int)/4=(p:Int):=oA;have G7:(p:Int)<8:=oA;obtain ⟨q,Z⟩:=At (k%4);have BY:(k:Int)%4=(q:Int):=oA;obtain ⟨s,hs⟩:=At (24-8*q);have G8:(q:Int)<4:=oA;have E4:24-8*(q:Int)=(s:Int):=oA;have F3:(s:Int)<=24:=oA;have c0:wr.cell? ⟨V,p,none⟩=some (.int .u32 (U32 (Ea l p))):=D.atV oA rfl;have c1:=T.atV hk rfl;have f1:=T.free;have D7:=Hd C;have HP:=Hd R;have HQ:=Hd Z;have F1:=Hd hs;clear C R Z hs;go_wp2_with fail;clear c0 c1 f1;go_roundg (gk-1)
         case rel=>
          have:=D7.out;refine ⟨k+1,oA,gnA,D.other _ _ (by show V≠O;omega),(T.setV hk _).ofV fun j _=> ?_,d.setCell (by show B<=O;omega) _⟩;exact qT l j k _ (by rw [dgb,<-HQ.out,<-F1.out,<-HP.out];exact qU _ s _ rfl)
         case measure=>have:=D7.out;omega
        .obtain rfl:k=32:=oA;have tk:decide (((32:Nat):Int)<32)=false:=skA;replace T:=T.ofV (g:=fun j=>bv (dgb l j)) fun j M=>Vz M;have D8:Blk wr H (vA 32 fun _=> .int .u8 0) 170:=hR.below d (by rw [HB.out];omega);clear C D;go_wp2_with (first|refine ap rfl 170 fX _ rfl rfl T (ay _ _) ?_|refine ae rfl 170 fX (.tmp 2) _ (cells:=dgA l) rfl rfl rfl D8 (ay _ _) (ay _ _) (dF fun _ _=>rfl) ?_);refine cT rfl fX rfl (D8.setRow _) (ay _ _) rfl ⟨rfl,?_⟩;exact ak (E1.trans (d.mono (by rw [HB.out];omega))) (VU _) _
  .have t56:((q:Int) !=56)=true:=soA;have E6:n<140737488354000:=oA;have G9:z<zN L:=oA;clear G Z hz B0 hZ;go_wp2_with (at_builtin;refine al rfl (.tmp 21) (.tmp 22) 22 rfl dS rfl (A.own.alloc _) rfl (av.new' _ _ _ _ skA) rfA (by exact de _ rfl) mxA oA soA ?_);intro a4 c4 w4 A2 y;have B1:=(A.own.alloc (.cells #[Value.int .u8 0] 5)).grown (A.below.alloc oA _) (VU _) y soA;clear y;go_wp2_with fail;go_roundg (gk-1)
   case rel=>
    have C:=HF.out;have G:=HN.out;refine ⟨z+1,n+1,a4,c4,oA,oA,rfl,⟨?_,B1⟩⟩;rw [zn,VF];exact A2
   case measure=>have C:=HF.out;omega
end
end Go.Proofs.YtioigihakjlopaaGreat

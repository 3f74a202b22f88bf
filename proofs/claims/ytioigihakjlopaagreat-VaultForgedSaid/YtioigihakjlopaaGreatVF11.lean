import Derived.Test.YtioigihakjlopaaGreatVF08
import Derived.Defers
import Derived.Recover
namespace Go.Proofs.YtioigihakjlopaaGreat
open Go.Proofs.Tryz
set_option linter.unusedVariables false
set_option linter.unusedSimpArgs false
set_option maxHeartbeats 16000000
set_option maxRecDepth 100000
section
open Go.RowKit
theorem gl:lR prog 38 6:=⟨⟨_,underlying38,rfl⟩,krA⟩
theorem pv {w:World} {g:Nat} {cs:Array Value} {t:TypeId} (h:Blk w g cs t):w.setRow g cs=w:=by
 have e:(w.setRow g cs).heap=w.heap:=by
  apply Wr;intro i;by_cases hi:i=g
  .subst hi;have h1:w.heap[i]? =_:=h;rw [setRow_heap w i cs cs t (0,0) h1,h1]
  .exact WN _ _ _ _ hi
 have:w.setRow g cs={w with heap:=(w.setRow g cs).heap}:=rfl;rw [this,e]
theorem JE (v:Value) (w:World):(Instr.typeAssert (.iface 218 v) 20 218 true).run prog w= .ok (.tuple #[v,.bool true]) w:=by kernel_rfl
def jR:Sl:=⟨none,0,0⟩
theorem wV (zb xb ab eb:Nat) (w:World):
  CallsD prog 152 #[.pointer (some ⟨zb,0,none⟩),.pointer (some ⟨xb,0,none⟩),.pointer (some ⟨ab,0,none⟩),.pointer (some ⟨eb,0,none⟩)] .returning w fun e u' w'=>
   e= .returned (.tuple #[])/\u'= .returning/\w'=w:=by
 refine callsD_of_wpS func152 rfl fun c₀ cs hu=> ?_;apply wpS_seq;apply wpS_region;simp [wpOpsS,go_sem,recoverD,hu,ntmps152,Exit.thenS];refine wpS_of_wp ?_;go_wp2_with fail;cases c₀;simp_all [bodyPostS,results,Tryz.results152]
theorem nO (zb xb ab eb p:Nat) (older:List PanicEntry) (zs cs0:Array Value) (a0 e0:Int) (w:World) (hz:Blk w zb zs 38) (hx:Blk w xb cs0 38) (ha:Blk w ab #[.int .i64 a0] 3) (he:Blk w eb #[.int .i64 e0] 29) (hzs:zs.size=6) (hcs:cs0.size=6) (hone:zs.toList.all (·.oneCell')=true) (hxz:xb≠zb):
  CallsD prog 152 #[.pointer (some ⟨zb,0,none⟩),.pointer (some ⟨xb,0,none⟩),.pointer (some ⟨ab,0,none⟩),.pointer (some ⟨eb,0,none⟩)] (.panicking ({v:= .iface 218 (.agg #[.int .i64 (p:Int)]),recovered:=false}::older)) w fun e u' w'=>
   e= .returned (.tuple #[])/\u'= .panicking ({v:= .iface 218 (.agg #[.int .i64 (p:Int)]),recovered:=true}::older)/\Blk w' xb zs 38/\Blk w' ab #[.int .i64 (p:Int)] 3/\Blk w' eb #[.int .i64 180] 29/\aJ (fun x=>x=xb\/x=ab\/x=eb) w w':=by
 refine callsD_of_wpS func152 rfl fun c₀ cs hu=> ?_;apply wpS_seq;apply wpS_region;simp [wpOpsS,go_sem,recoverD,hu,ntmps152,Exit.thenS];refine wpS_of_wp ?_;have htm: #[Value.pointer (some ⟨zb,0,none⟩),.pointer (some ⟨xb,0,none⟩),.pointer (some ⟨ab,0,none⟩),.pointer (some ⟨eb,0,none⟩)]++(Array.replicate 12 undef).setIfInBounds 3 (.iface 218 (.agg #[.int .i64 (p:Int)]))= #[.pointer (some ⟨zb,0,none⟩),.pointer (some ⟨xb,0,none⟩),.pointer (some ⟨ab,0,none⟩),.pointer (some ⟨eb,0,none⟩),undef,undef,undef,.iface 218 (.agg #[.int .i64 (p:Int)]),undef,undef,undef,undef,undef,undef,undef,undef]:=rfl;rw [htm];clear htm;have hta:=JE;go_upto_region 7 with (fail);obtain ⟨Y,hY⟩:=Le w.heap.size;rw [<-hY];refine af (fun W=>Blk W Y #[.int .i64 (p:Int)] 218/\Below w.heap.size w W) ⟨by rw [hY];exact Blk.new w _ _,cL⟩ ?_;rintro w1 ⟨hy1,hb1⟩;have hz1:=hz.old hb1;have hx1:=hx.old hb1;have ha1:=ha.old hb1;have he1:=he.old hb1;have hzx:xb<w.heap.size:=hx.lt;have hza:ab<w.heap.size:=ha.lt;have hze:eb<w.heap.size:=he.lt;have hax:ab≠xb:=ha.ne hx dcA;have hex:eb≠xb:=he.ne hx dcA;have hea:eb≠ab:=he.ne ha dcA;have hYw:w.heap.size<=Y:=oA;have haz:ab≠zb:=ha.ne hz dcA;have hez:eb≠zb:=he.ne hz dcA;clear hY;refine aj false (aq (fun x=>x=zb\/x=Y)) (aq.refl _) (fun _ _ _ h1 h2=>aq.trans h1 h2) (.step 0 (.step 1 (.step 2 (.step 3 (.step 4 (.step 5 .done)))))) krA krA cdA ?_;have kz:∀W,aq (fun x=>x=zb\/x=Y) w1.drew W->Blk W zb zs 38:=fun W hW=>(hW.2 _ (.inl rfl)).trans hz1;have ky:∀W,aq (fun x=>x=zb\/x=Y) w1.drew W->∀i,W.cell? ⟨Y,i,none⟩= #[Value.int .i64 (p:Int)][i]? :=fun W hW=>(show Blk W Y _ _ from (hW.2 _ (.inr rfl)).trans hy1).rule;refine ci (v:= .agg zs) rfl rfl rfA (fun W hW=>aI 38 gl _ rfl rfl (cs:=zs.toList) rfl (fun j hj=>by rw [VS,(kz W hW).rule j];simp at hj;simp [hj]) (by simpa using hzs)) ?_;simp only [Act.put,sTA,List.set]
 repeat (first|refine tsA ?_|refine tqA ?_)
 refine an rfl rfl rfA (fun K hK=> ?_);refine bf 38 gl _ _ rfl rfl rfl hx1.drew hzs oA hone ?_;have hx2:=hx1.drew.setRow (cD cs0 0 zs);have hb2:∀x,x≠xb->(w1.drew.setRow xb (cD cs0 0 zs)).heap[x]? =w1.heap[x]? :=fun x hx=>WN _ _ _ _ hx;obtain ⟨w2,hw2⟩:=Le (w1.drew.setRow xb (cD cs0 0 zs));rw [<-hw2] at hx2 hb2⊢;have hz2:w1.heap.size<=w2.heap.size:=(by rw [hw2];simp [World.setRow]);have ht2:aJ (fun x=>x=xb\/x=ab\/x=eb) w w2:=by
  refine ⟨?_,?_,?_,At hb1.size hz2,fun k hk hf=>(hb2 k fun e=>hf (.inl e)).trans (hb1.block k hk)⟩
  .rw [hw2];exact hb1.os
  .rw [hw2];exact hb1.tape
  .rw [hw2];exact hb1.output
 have hsp:cD cs0 0 zs=zs:=by
  unfold cD;rw [List.take_zero,Wf,List.drop_of_length_le (by rw [Array.length_toList];omega),Wq]
 rw [hsp] at hx2;refine hK _ _ ⟨hz2,fun x hx=>hb2 x (by rcases hx with rfl|rfl;exact Vf hxz;omega)⟩ ?_;clear hK K hw2 kz ky hta;have ha2:Blk w2 ab _ _:=(hb2 ab hax).trans ha1;have he2:Blk w2 eb _ _:=(hb2 eb hex).trans he1;have ca:=ha2.rule;have fa:=ha2.free;refine an rfl rfl rfA (fun K hK=> ?_);go_wp2_with fail;refine hK _ _ ⟨skA,fun x hx=>VU _ _ _ _ (by rcases hx with rfl|rfl;exact Vf haz;show x≠ab;omega)⟩ ?_;clear hK K;have hx3:Blk (w2.setCell ⟨ab,0,none⟩ (.int .i64 (p:Int))) xb zs 38:=(VU _ _ _ _ (Vf hax)).trans hx2;have ha3:=ha2.set 0 (.int .i64 (p:Int));have he3:Blk (w2.setCell ⟨ab,0,none⟩ (.int .i64 (p:Int))) eb _ _:=(VU _ _ _ _ hea).trans he2;have ht3:=ht2.setCell (x:=⟨ab,0,none⟩) (.inl (.inr (.inl rfl))) (.int .i64 (p:Int));obtain ⟨w3,hw3⟩:=Le (w2.setCell ⟨ab,0,none⟩ (.int .i64 (p:Int)));rw [<-hw3] at hx3 ha3 he3 ht3⊢;have hz3:w2.heap.size<=w3.heap.size:=(by rw [hw3];simp);have ce:=he3.rule;have fe:=he3.free;clear hw3 ca fa;refine an rfl rfl rfA (fun K hK=> ?_);go_wp2_with fail;refine hK _ _ ⟨skA,fun x hx=>VU _ _ _ _ (by rcases hx with rfl|rfl;exact Vf hez;show x≠eb;omega)⟩ ?_;clear hK K;refine ap ?_;go_wp2_with fail;refine ⟨rfl,_,rfl,.tuple #[],Wx rfl _ _ _,rfl,rfl,?_,?_,?_,?_⟩
 .exact (VU _ _ _ _ (Vf hex)).trans hx3
 .exact (VU _ _ _ _ (Vf hea)).trans ha3
 .exact he3.set 0 (.int .i64 180)
 .exact ht3.setCell (.inl (.inr (.inr rfl))) _
theorem bh.turned {w w':World} {B:Nat} {F:Nat->Prop} {p:bq} {h:dt} (a:bh w B p h) (ht:aJ F w w') (hF:∀x,F x->x<B):bh w' B p h:=
 ⟨a.op,a.side,a.place,a.target,av.turn a.ids ht hF,aN.turn a.pairs ht hF⟩
def dG:bq:=⟨0,0,0,0,[],[]⟩
def lm:dt:=⟨jR,jR⟩
def dP (bs:List UInt8):bq×Nat×Int:=match fZ eI bs with
 | .error k=>(dG,k,180)
 | .ok p=>(p,0,0)
theorem Km (w:World) (a:Option Addr) (n cap:Nat) (bs:List UInt8) (hb:ah w a bs) (hn:bs.length=n) (hm:n<=1048576):
  Calls prog 124 #[.slice a n cap,.func (.func 121) #[] #[]] w fun e w'=>∃h,e= .returned (.tuple #[bI (dP bs).1 h,.int .i64 ((dP bs).2.1:Int),.int .i64 (dP bs).2.2])/\bh w' w.heap.size (dP bs).1 h/\Below w.heap.size w w':=by
 have hmf:∀(fn:Fn) (first cap:Array Value) (w:World),(Instr.makeFunc fn first cap).run prog w= .ok (.func fn first cap) w:=fun _ _ _ _=>rfl;have HN:=Hd hn;clear hn;go_enter_defers func124,ntmps124;go_upto_region 4 with (fail);obtain ⟨X,hX⟩:=Le w.heap.size;obtain ⟨A,hA⟩:=Le (w.heap.size+1);obtain ⟨E,hE⟩:=Le (w.heap.size+1+1);obtain ⟨Z,hZ⟩:=Le (w.heap.size+1+1+1);rw [<-hZ,<-hE,<-hA,<-hX];refine af (fun W=>Blk W X (ay dG lm).toArray 38/\Blk W A #[.int .i64 0] 3/\Blk W E #[.int .i64 0] 29/\Blk W Z (ay dG lm).toArray 38/\Below w.heap.size w W) ⟨?_,?_,?_,?_,cL⟩ ?_
 .rw [hX];exact (Blk.new3 w (ay dG lm).toArray 38 _ _).alloc _
 .rw [hA];exact (Blk.new3' w #[.int .i64 0] 3 _ _).alloc _
 .rw [hE];exact (Blk.new3'' w #[.int .i64 0] 29 _ _).alloc _
 .have:=Blk.new (((w.alloc (.cells (ay dG lm).toArray 38)).alloc (.cells #[.int .i64 0] 3)).alloc (.cells #[.int .i64 0] 29)) (ay dG lm).toArray 38;rw [hZ];have e:(((w.alloc (.cells (ay dG lm).toArray 38)).alloc (.cells #[.int .i64 0] 3)).alloc (.cells #[.int .i64 0] 29)).heap.size=w.heap.size+1+1+1:=skA;rw [e] at this;exact this
 rintro W1 ⟨hx1,ha1,he1,hz1,hb1⟩;have hZl:=hz1.lt;have HXS:=Hd (show X=w.heap.size/\A=w.heap.size+1/\E=w.heap.size+1+1/\Z=w.heap.size+1+1+1 from ⟨hX,hA,hE,hZ⟩);clear hX hA hE hZ;go_upto_region 6 with (fail);obtain ⟨C,hC⟩:=Le W1.heap.size;rw [<-hC];refine af (fun W=>Blk W C #[.slice a n cap,.int .i64 0,.bool true] 184/\Below W1.heap.size W1 W) ⟨by rw [hC];exact Blk.new W1 _ _,cL⟩ ?_;rintro W2 ⟨hc2,hb2⟩;obtain ⟨hX,hA,hE,hZ⟩:=HXS.out;have hbz:ah W2 a bs:=hb.below (ae hb1 hb2);have hlow:InB w.heap.size a bs.length:=fun hp ad ha=>by
  obtain ⟨b',o',e1,e2⟩:=hb 0 (by simpa using hp);rw [ha] at e1;cases e1;exact VV w _ e2
 have hq:RAt W2 w.heap.size ⟨C,a,cap,bs,0⟩:=⟨by show w.heap.size<=C;omega,by unfold gR;dsimp only;rw [HN.out];exact hc2,hbz,hlow,Vo _,by show bs.length<=_;rw [HN.out];exact hm⟩;have hB2:w.heap.size<=W2.heap.size:=(by have:=hb2.size;omega);have cb:=FG W2 w.heap.size ⟨C,a,cap,bs,0⟩ X _ 38 dG lm hq hB2 (hx1.old hb2) rfl oA (by show X≠C;omega);dsimp only at cb;have hz2:=hz1.old hb2;have ha2:=ha1.old hb2;have he2:=he1.old hb2;have hXA:X≠A:=oA;have hXZ:X≠Z:=oA;have hCX:C≠X:=oA;have hCA:C≠A:=oA;have hCE:C≠E:=oA;have hCZ:C≠Z:=oA;have hXE:X≠E:=oA;have hl2:W1.heap.size<=W2.heap.size:=hb2.size;have hlX:w.heap.size<=X/\w.heap.size<=A/\w.heap.size<=E/\w.heap.size<=Z/\X<W2.heap.size/\A<W2.heap.size/\E<W2.heap.size/\Z<W2.heap.size:=oA;have HLX:=Hd hlX;have hb02:Below w.heap.size w W2:=hb1.trans (hb2.mono oA);clear hX hA hE hZ hC hbz hlow hlX;go_wp2_with fail;refine cb.mono ?_;clear cb;rintro e W3 hres;obtain ⟨l1,l2,l3,l4,l5,l6,l7,l8⟩:=HLX.out;have hone:((ay dG lm).toArray).toList.all (·.oneCell')=true:=rfl;have nilOwn:∀(W:World) (B:Nat),bh W B dG lm:=fun W B=>
  have h0:av W B jR []:=av.nil _ _
  have h1:aN W B jR []:=aN.nil _ _
  have hz:eO 0:=by show (Lit.int .i64 0).wf=true;decide
  have hz8:wf8 0:=by show (Lit.int .i8 0).wf=true;decide
  ⟨hz8,hz,hz,hz,h0,h1⟩
 have has:∀(ad:Addr) (w:World),(asAddr (.pointer (some ad))).run prog w= .ok ad w:=fun _ _=>rfl;rcases hr:eI bs 0 with k|⟨p,k⟩
 .obtain ⟨rfl,hbd⟩:=hres.err hr;have HR:=Hd (show dP bs=(dG,k,180) by unfold dP fZ;rw [hr]);have hz3:Blk W3 Z _ _:=(hbd.turn.block Z l8 (by rintro (h|h);exact hCZ h.symm;exact hXZ h.symm)).trans hz2;have ha3:Blk W3 A _ _:=(hbd.turn.block A l6 (by rintro (h|h);exact hCA h.symm;exact hXA h.symm)).trans ha2;have he3:Blk W3 E _ _:=(hbd.turn.block E l7 (by rintro (h|h);exact hCE h.symm;exact hXE h.symm)).trans he2;obtain ⟨cs3,hx3,hs3⟩:=hbd.blk _ (hx1.old hb2);have hb3:Below w.heap.size w W3:=hb02.trans (hbd.below hq l1 hB2);clear hres hbd hz2 ha2 he2 hc2 hx1 ha1 he1 hz1 hr;go_wp2_with fail;refine leaves_cons (f:=152) (args:= #[.pointer (some ⟨Z,0,none⟩),.pointer (some ⟨X,0,none⟩),.pointer (some ⟨A,0,none⟩),.pointer (some ⟨E,0,none⟩)]) skA (by simp [go_sem]) ?_;refine (nO Z X A E k [] _ cs3 0 0 W3 hz3 hx3 ha3 he3 rfl (by rw [hs3];rfl) hone hXZ).mono ?_;rintro e u' w'' ⟨rfl,rfl,hx4,ha4,he4,ht4⟩;have hb4:Below w.heap.size w w'':=hb3.trans (ht4.below (fun x hx=>by rcases hx with rfl|rfl|rfl<;>assumption) (by have:=hb3.size;exact this))
  have cx:(loadVar 38 ⟨X,0,none⟩).run prog w''= .ok (bI dG lm) w'':=dw gl (cs:=ay dG lm) (fun j hj=>by rw [VS,hx4.rule j];simp [hj]) rfl;have ca:(loadVar 3 ⟨A,0,none⟩).run prog w''= .ok (.int .i64 (k:Int)) w'':=by
   have:=ha4.rule 0;simp [loadVar,go_sem,this]
  have ce:(loadVar 29 ⟨E,0,none⟩).run prog w''= .ok (.int .i64 180) w'':=by
   have:=he4.rule 0;simp [loadVar,go_sem,this]
  refine ⟨.tuple #[bI dG lm,.int .i64 (k:Int),.int .i64 180],?_,?_⟩
  .simp [results,Tryz.results124,has,cx,ca,ce]
  .rw [HR.out];exact ⟨lm,rfl,nilOwn _ _,hb4⟩
 .obtain ⟨rfl,h,hown,hg⟩:=hres.ok hr;have hz3:Blk W3 Z _ _:=(hg.turn.block Z l8 (by rintro (h|h);exact hCZ h.symm;exact hXZ h.symm)).trans hz2;have ha3:Blk W3 A _ _:=(hg.turn.block A l6 (by rintro (h|h);exact hCA h.symm;exact hXA h.symm)).trans ha2;have he3:Blk W3 E _ _:=(hg.turn.block E l7 (by rintro (h|h);exact hCE h.symm;exact hXE h.symm)).trans he2;have hx3:=hg.blk;have hb3:Below w.heap.size w W3:=hb02.trans (hg.below hq l1 hB2);have hle:k<=bs.length:=hg.at'.le;have cc:=hg.at'.blk.rule;unfold gR RC.to at cc;dsimp only at cc;rw [HN.out] at cc hle;clear hres hz2 ha2 he2 hc2 hx1 ha1 he1 hz1 hg;by_cases hk:k<n
  .have HR:=Hd (show dP bs=(dG,k,180) by unfold dP fZ;rw [hr];dsimp only;rw [if_pos (by rw [HN.out];exact hk)]);have d1:decide ((k:Int)<(n:Int))=true:=soA;obtain ⟨cs3,hcs3⟩:=Le ((ay p h).toArray);have hs3:cs3.size=(ay dG lm).toArray.size:=(by rw [hcs3];rfl);rw [<-hcs3] at hx3;clear hr hle hcs3 hown;go_wp2_with fail;refine leaves_cons (f:=152) (args:= #[.pointer (some ⟨Z,0,none⟩),.pointer (some ⟨X,0,none⟩),.pointer (some ⟨A,0,none⟩),.pointer (some ⟨E,0,none⟩)]) skA (by simp [go_sem]) ?_;refine (nO Z X A E k [] _ cs3 0 0 W3 hz3 hx3 ha3 he3 rfl (by rw [hs3];rfl) hone hXZ).mono ?_;rintro e u' w'' ⟨rfl,rfl,hx4,ha4,he4,ht4⟩;have hb4:Below w.heap.size w w'':=hb3.trans (ht4.below (fun x hx=>by rcases hx with rfl|rfl|rfl<;>assumption) (by have:=hb3.size;exact this))
   have cx:(loadVar 38 ⟨X,0,none⟩).run prog w''= .ok (bI dG lm) w'':=dw gl (cs:=ay dG lm) (fun j hj=>by rw [VS,hx4.rule j];simp [hj]) rfl;have ca:(loadVar 3 ⟨A,0,none⟩).run prog w''= .ok (.int .i64 (k:Int)) w'':=by
    have:=ha4.rule 0;simp [loadVar,go_sem,this]
   have ce:(loadVar 29 ⟨E,0,none⟩).run prog w''= .ok (.int .i64 180) w'':=by
    have:=he4.rule 0;simp [loadVar,go_sem,this]
   refine ⟨.tuple #[bI dG lm,.int .i64 (k:Int),.int .i64 180],?_,?_⟩
   .simp [results,Tryz.results124,has,cx,ca,ce]
   .rw [HR.out];exact ⟨lm,rfl,nilOwn _ _,hb4⟩
  .have hkn:k=n:=oA;have HR:=Hd (show dP bs=(p,0,0) by unfold dP fZ;rw [hr];dsimp only;rw [if_neg (by rw [HN.out];exact hk)]);have d1:decide ((k:Int)<(n:Int))=false:=soA;have hself:W3.setRow X (ay p h).toArray=W3:=pv hx3;have ca:=ha3.rule;have fa:=ha3.free;have hEA:E≠A:=(by have:=HXS.out;omega);have he4:Blk (W3.setCell ⟨A,0,none⟩ (.int .i64 0)) E #[.int .i64 0] 29:=(VU _ _ _ _ hEA).trans he3;have ce:=he4.rule;have fe:=he4.free;have hAX:A≠X:=Vf hXA;have hx5:Blk ((W3.setCell ⟨A,0,none⟩ (.int .i64 0)).setCell ⟨E,0,none⟩ (.int .i64 0)) X (ay p h).toArray 38:=((VU _ _ _ _ hXE).trans (VU _ _ _ _ hXA)).trans hx3;have ha5:Blk ((W3.setCell ⟨A,0,none⟩ (.int .i64 0)).setCell ⟨E,0,none⟩ (.int .i64 0)) A #[.int .i64 0] 3:=(VU _ _ _ _ (Vf hEA)).trans (ha3.set 0 (.int .i64 0));have he5:Blk ((W3.setCell ⟨A,0,none⟩ (.int .i64 0)).setCell ⟨E,0,none⟩ (.int .i64 0)) E #[.int .i64 0] 29:=he4.set 0 (.int .i64 0);have hb5:Below w.heap.size w ((W3.setCell ⟨A,0,none⟩ (.int .i64 0)).setCell ⟨E,0,none⟩ (.int .i64 0)):=(hb3.setCell l2 _).setCell l3 _;have hown5:bh ((W3.setCell ⟨A,0,none⟩ (.int .i64 0)).setCell ⟨E,0,none⟩ (.int .i64 0)) w.heap.size p h:=
    (hown.turned (F:=fun x=>x=A\/x=E) (((aJ.refl _ W3).setCell (x:=⟨A,0,none⟩) (.inl (.inl rfl)) _).setCell (x:=⟨E,0,none⟩) (.inl (.inr rfl)) _) (fun x hx=>by rcases hx with rfl|rfl<;>assumption)).lower hB2
   go_wp2_with (first|refine am rfl 38 gl (.tmp 4) rfl rfl hx3 rfl ?_|(refine aa rfl 38 gl (.tmp 4) _ rfl rfl rfl hx3 rfl rfl rfl ?_;rw [hself]));refine leaves_cons (f:=152) (args:= #[.pointer (some ⟨Z,0,none⟩),.pointer (some ⟨X,0,none⟩),.pointer (some ⟨A,0,none⟩),.pointer (some ⟨E,0,none⟩)]) skA (by simp [go_sem]) ?_;refine (wV Z X A E _).mono ?_;rintro e u' w'' ⟨rfl,rfl,rfl⟩;clear ca ce;have cx:(loadVar 38 ⟨X,0,none⟩).run prog _= .ok (bI p h) _:=dw gl (cs:=ay p h) (fun j hj=>by rw [VS,hx5.rule j];simp [hj]) rfl;have ca:(loadVar 3 ⟨A,0,none⟩).run prog ((W3.setCell ⟨A,0,none⟩ (.int .i64 0)).setCell ⟨E,0,none⟩ (.int .i64 0))= .ok (.int .i64 0) ((W3.setCell ⟨A,0,none⟩ (.int .i64 0)).setCell ⟨E,0,none⟩ (.int .i64 0)):=by
    have:=ha5.rule 0;simp [loadVar,go_sem,this]
   have ce:(loadVar 29 ⟨E,0,none⟩).run prog ((W3.setCell ⟨A,0,none⟩ (.int .i64 0)).setCell ⟨E,0,none⟩ (.int .i64 0))= .ok (.int .i64 0) ((W3.setCell ⟨A,0,none⟩ (.int .i64 0)).setCell ⟨E,0,none⟩ (.int .i64 0)):=by
    have:=he5.rule 0;simp [loadVar,go_sem,this]
   refine ⟨.tuple #[bI p h,.int .i64 0,.int .i64 0],?_,?_⟩
   .simp [results,Tryz.results124,has,cx,ca,ce]
   .rw [HR.out];exact ⟨h,rfl,hown5,hb5⟩
theorem vY (w:World) (a:Option Addr) (n cap:Nat) (bs:List UInt8) (hb:ah w a bs) (hn:bs.length=n) (hm:n<=1048576):
  Calls prog 85 #[.slice a n cap] w fun e w'=>∃h,e= .returned (.tuple #[bI (dP bs).1 h,.int .i64 ((dP bs).2.1:Int),.int .i64 (dP bs).2.2])/\bh w' w.heap.size (dP bs).1 h/\Below w.heap.size w w':=by
 have HN:=Hd hn;clear hn;go_enter func85,ntmps85;go_upto_region 1 with (fail);obtain ⟨X,hX⟩:=Le w.heap.size;rw [<-hX];refine af (fun W=>Blk W X (ay dG lm).toArray 38/\Below w.heap.size w W) ⟨by rw [hX];exact Blk.new w (ay dG lm).toArray _,cL⟩ ?_;rintro W1 ⟨hx1,hb1⟩;have hxl:=hx1.lt;have hXw:w.heap.size<=X:=VR hX.symm;clear hX;have cb:=Km W1 a n cap bs (hb.below hb1) HN.out hm;obtain ⟨p,hp⟩:=Le ((dP bs).1);obtain ⟨k,hk⟩:=Le ((dP bs).2.1);obtain ⟨er,her⟩:=Le ((dP bs).2.2);rw [<-hp,<-hk,<-her] at cb;have HP:=Hd hp;have HK:=Hd hk;have HE:=Hd her;clear hp hk her;go_wp2_with fail;refine cb.mono ?_;clear cb;rintro e W2 ⟨h,rfl,hown,hb2⟩;have hx2:=hx1.old hb2;have hs3:Blk (W2.setRow X (ay p h).toArray) X (ay p h).toArray 38:=hx2.setRow _;have hown3:=(hown.setRow X (ay p h).toArray hxl).lower hb1.size;have hb3:Below w.heap.size w (W2.setRow X (ay p h).toArray):=ag (ae hb1 hb2) hXw _;rw [ed];go_wp2_with (refine aa rfl 38 gl (.tmp 2) _ rfl rfl rfl hx2 rfl rfl rfA ?_);have has:∀(ad:Addr) (w:World),(asAddr (.pointer (some ad))).run prog w= .ok ad w:=fun _ _=>rfl;have cx:(loadVar 38 ⟨X,0,none⟩).run prog _= .ok (bI p h) _:=dw gl (cs:=ay p h) (fun j hj=>by rw [VS,hs3.rule j];simp [hj]) rfl;refine bodyPost_ret (v:= .tuple #[bI p h,.int .i64 (k:Int),.int .i64 er]) ?_ rfl ?_
 .simp [results,Tryz.results85,has,cx]
 .rw [<-HP.out,<-HK.out,<-HE.out];exact ⟨h,rfl,hown3,hb3⟩
end
section
open Go.RowKit
def Ax (l:List UInt8):Nat:=l.foldl (fun n y=>n*256+y.toNat) 0
theorem uK (l:List UInt8) (y:UInt8):Ax (l++ [y])=Ax l*256+y.toNat:=by
 unfold Ax;rw [List.foldl_append];rfl
theorem xI {P:List UInt8->Prop} (h0:P []) (h1:∀l y,P l->P (l++ [y])) (l:List UInt8):P l:=by
 have h:∀l:List UInt8,P l.reverse:=fun l=>by
  induction l with
  |nil=>exact h0
  |cons y l ih=>rw [List.reverse_cons];exact h1 _ _ ih
 have:=h l.reverse;rwa [List.reverse_reverse] at this
theorem It (l:List UInt8):Ax l<256^l.length:=by
 refine xI (P:=fun l=>Ax l<256^l.length) ?_ (fun l y ih=> ?_) l
 .simp [Ax]
 .rw [uK,laA,List.length_singleton,Nat.pow_succ];have:=y.toNat_lt;omega
theorem BE (l:List UInt8) (y:UInt8):rdB (l++ [y])=(rdB l<<<8|||y.toBitVec.setWidth 64):=by
 unfold rdB;rw [List.foldl_append];rfl
theorem BF (l:List UInt8) (h:l.length<=8):(rdB l).toNat=Ax l:=by
 revert h;refine xI (P:=fun l=>l.length<=8->(rdB l).toNat=Ax l) ?_ (fun l y ih h=> ?_) l
 .intro _;rfl
 .rw [laA,List.length_singleton] at h;have h1:=ih oA;have h2:=It l;have h3:256^l.length<=256^7:=Nat.pow_le_pow_right oA oA;have hy:y.toBitVec.toNat=y.toNat:=rfl;have hy2:=y.toNat_lt;rw [BE,uK,BitVec.toNat_or,BitVec.toNat_shiftLeft,XU,h1,hy,Wh (a:=y.toNat) oA];have h4:Ax l<<<8%2^64=Ax l<<<8:=by
   rw [Nat.shiftLeft_eq];exact Wh oA
  rw [h4,<-Nat.shiftLeft_add_eq_or_of_lt oA,Nat.shiftLeft_eq]
def JA (v:BitVec 64):List UInt8:=(List.range 8).map fun i=>⟨(v>>>(56-8*i)).setWidth 8⟩
theorem yH (n:Int):be8 n=JA (BitVec.ofInt 64 n):=rfl
theorem gj (v:BitVec 64) (k:Nat):(⟨(v>>>k).setWidth 8⟩:UInt8).toNat=v.toNat/2^k%256:=by
 show ((v>>>k).setWidth 8).toNat=_;rw [XU,BitVec.toNat_ushiftRight,XK]
theorem vk (v:BitVec 64):JA v=[⟨(v>>>56).setWidth 8⟩,⟨(v>>>48).setWidth 8⟩,⟨(v>>>40).setWidth 8⟩,⟨(v>>>32).setWidth 8⟩,⟨(v>>>24).setWidth 8⟩,⟨(v>>>16).setWidth 8⟩,⟨(v>>>8).setWidth 8⟩,⟨(v>>>0).setWidth 8⟩]:=rfl
theorem xQ (v:BitVec 64):rdB (JA v)=v:=by
 apply Wd;rw [BF _ (by simp [JA]),vk];simp only [Ax,List.foldl,gj];have:=v.isLt;omega
theorem yJ (l:List UInt8) (h:l.length=8):JA (rdB l)=l:=by
 match l,h with
 | [a,b,c,d,e,f,g,i],_=>
  have hn:=BF [a,b,c,d,e,f,g,i] skA;simp only [Ax,List.foldl] at hn;have h0:=a.toNat_lt;have h1:=b.toNat_lt;have h2:=c.toNat_lt;have h3:=d.toNat_lt;have h4:=e.toNat_lt;have h5:=f.toNat_lt;have h6:=g.toNat_lt;have h7:=i.toNat_lt;rw [vk];congr 1
  .apply Wl.1;rw [gj,hn];omega
  congr 1
  .apply Wl.1;rw [gj,hn];omega
  congr 1
  .apply Wl.1;rw [gj,hn];omega
  congr 1
  .apply Wl.1;rw [gj,hn];omega
  congr 1
  .apply Wl.1;rw [gj,hn];omega
  congr 1
  .apply Wl.1;rw [gj,hn];omega
  congr 1
  .apply Wl.1;rw [gj,hn];omega
  congr 1
  .apply Wl.1;rw [gj,hn];omega
theorem pM (n:Int) (h:eO n):(BitVec.ofInt 64 n).toInt=n:=by
 rw [BitVec.toInt_ofInt];simp only [eO,Lit.wf,IntKind.min,IntKind.max,IntKind.signed,IntKind.bits] at h;simp at h;rw [Int.bmod_def];split<;>omega
structure ir {α:Type} (ok:α->Prop) (enc:α->List UInt8) (rd:List UInt8->Nat->Rd α):Prop where
 back:∀x pre post,ok x->rd (pre++(enc x++post)) pre.length= .ok (x,pre.length+(enc x).length)
 fwd:∀bs a x b,a<=bs.length->rd bs a= .ok (x,b)->ok x/\b=a+(enc x).length/\b<=bs.length/\(bs.drop a).take (enc x).length=enc x
 err:∀bs a p,a<=bs.length->rd bs a= .error p->p<=bs.length
theorem ec:ir eO be8 bB:=by
 refine ⟨fun x pre post hx=> ?_,fun bs a x b ha h=> ?_,fun bs a p ha h=> ?_⟩
 .unfold bB;have hl:=au x;rw [if_neg (by simp only [laA];omega),List.drop_left,XW oA,Vj oA,hl,yH,xQ,pM x hx]
 .unfold bB at h;split at h
  .cases h
  .rename_i hle;cases h;have hl:((bs.drop a).take 8).length=8:=(by rw [ltA,ldA];omega);have e:be8 (rdB ((bs.drop a).take 8)).toInt=(bs.drop a).take 8:=by
    rw [yH,BitVec.ofInt_toInt,yJ _ hl]
   refine ⟨?_,by rw [au],oA,by rw [au,e]⟩;have h1:=Xh (x:=rdB ((bs.drop a).take 8));have h2:=Xi (x:=rdB ((bs.drop a).take 8));simp only [eO,Lit.wf,IntKind.min,IntKind.max,IntKind.signed,IntKind.bits];simp at h1 h2⊢;omega
 .unfold bB at h;split at h
  .cases h;exact Lt _
  .cases h
theorem GZ {n:Int} (h:wf8 n):eO n/\-128<=n/\n<=127:=by
 simp only [wf8,eO,Lit.wf,IntKind.min,IntKind.max,IntKind.signed,IntKind.bits] at*;simp at*;omega
theorem Kn {n:Int} (h:¬(n< -128\/127<n)):wf8 n:=by
 simp only [wf8,Lit.wf,IntKind.min,IntKind.max,IntKind.signed,IntKind.bits];simp;omega
theorem wT:ir wf8 be8 dQ:=by
 refine ⟨fun x pre post hx=> ?_,fun bs a x b ha h=> ?_,fun bs a p ha h=> ?_⟩
 .obtain ⟨h1,h2⟩:=GZ hx;unfold dQ;rw [ec.back x pre post h1];dsimp only;rw [if_neg oA]
 .unfold dQ at h;cases hn:bB bs a with
  |error p=>rw [hn] at h;cases h
  |ok v=>
   rw [hn] at h;dsimp only at h;split at h
   .cases h
   .rename_i ho;cases h;have:=ec.fwd bs a v.1 v.2 ha hn;exact ⟨Kn ho,this.2⟩
 .unfold dQ at h;cases hn:bB bs a with
  |error p'=>rw [hn] at h;cases h;exact ec.err bs a _ ha hn
  |ok v=>
   rw [hn] at h;dsimp only at h;split at h
   .cases h;exact ha
   .cases h
section
variable {α β:Type} {ok1:α->Prop} {ok2:β->Prop} {enc1:α->List UInt8} {enc2:β->List UInt8} {rd1:List UInt8->Nat->Rd α} {rd2:List UInt8->Nat->Rd β}
theorem ir.seq (h1:ir ok1 enc1 rd1) (h2:ir ok2 enc2 rd2):ir (fun xy:α×β=>ok1 xy.1/\ok2 xy.2) (fun xy=>enc1 xy.1++enc2 xy.2) (fun bs a=>thn (rd1 bs a) fun x a=>thn (rd2 bs a) fun y a=> .ok ((x,y),a)):=by
 refine ⟨fun x pre post hx=> ?_,fun bs a x b ha h=> ?_,fun bs a p ha h=> ?_⟩
 .have e1:pre++(enc1 x.1++enc2 x.2++post)=pre++(enc1 x.1++(enc2 x.2++post)):=(by rw [VM]);have e2:pre++(enc1 x.1++(enc2 x.2++post))=(pre++enc1 x.1)++(enc2 x.2++post):=skA
  (try dsimp only);rw [e1,h1.back x.1 pre _ hx.1];dsimp only [thn];rw [e2,<-laA,h2.back x.2 (pre++enc1 x.1) post hx.2];dsimp only;simp only [laA,WP]
 . (try dsimp only at h);cases hr1:rd1 bs a with
  |error p=>rw [hr1] at h;cases h
  |ok v=>
   rw [hr1] at h;dsimp only [thn] at h;obtain ⟨o1,e1,l1,t1⟩:=h1.fwd bs a v.1 v.2 ha hr1;cases hr2:rd2 bs v.2 with
   |error p=>rw [hr2] at h;cases h
   |ok u=>
    rw [hr2] at h;dsimp only at h;cases h;obtain ⟨o2,e2,l2,t2⟩:=h2.fwd bs v.2 u.1 u.2 l1 hr2;refine ⟨⟨o1,o2⟩,by dsimp only;rw [laA];omega,l2,?_⟩
    (try dsimp only);rw [laA,List.take_add,t1,Wu,<-e1,t2]
 . (try dsimp only at h);cases hr1:rd1 bs a with
  |error p'=>rw [hr1] at h;cases h;exact h1.err bs a _ ha hr1
  |ok v=>
   rw [hr1] at h;dsimp only [thn] at h;obtain ⟨o1,e1,l1,t1⟩:=h1.fwd bs a v.1 v.2 ha hr1;cases hr2:rd2 bs v.2 with
   |error p'=>rw [hr2] at h;cases h;exact h2.err bs v.2 _ l1 hr2
   |ok u=>rw [hr2] at h;cases h
theorem ir.iso (h:ir ok1 enc1 rd1) (f:α->β) (g:β->α) (hgf:∀x,g (f x)=x) (hfg:∀y,f (g y)=y) (hok:∀x,ok2 (f x)↔ok1 x) (henc:∀x,enc2 (f x)=enc1 x) (hrd:∀bs a,rd2 bs a=thn (rd1 bs a) fun x a=> .ok (f x,a)):ir ok2 enc2 rd2:=by
 refine ⟨fun y pre post hy=> ?_,fun bs a y b ha h'=> ?_,fun bs a p ha h'=> ?_⟩
 .rw [<-hfg y] at hy⊢;rw [hrd,henc,h.back (g y) pre post ((hok _).1 hy)];rfl
 .rw [hrd] at h';cases hr:rd1 bs a with
  |error p=>rw [hr] at h';cases h'
  |ok v=>
   rw [hr] at h';cases h';obtain ⟨o1,e1,l1,t1⟩:=h.fwd bs a v.1 v.2 ha hr;exact ⟨(hok _).2 o1,by rw [henc];exact e1,l1,by rw [henc];exact t1⟩
 .rw [hrd] at h';cases hr:rd1 bs a with
  |error p'=>rw [hr] at h';cases h';exact h.err bs a _ ha hr
  |ok v=>rw [hr] at h';cases h'
theorem rI (h:ir ok1 enc1 rd1):∀(l:List α) (pre post:List UInt8),(∀x∈l,ok1 x)->bC (rd1 (pre++(l.flatMap enc1++post))) l.length pre.length= .ok (l,pre.length+(l.flatMap enc1).length)
 | [],pre,post,_=>by simp [bC]
 |x::l,pre,post,hx=>by
  have e1:pre++((x::l).flatMap enc1++post)=pre++(enc1 x++(l.flatMap enc1++post)):=skA;have e2:pre++(enc1 x++(l.flatMap enc1++post))=(pre++enc1 x)++(l.flatMap enc1++post):=skA;rw [VT,bC,e1,h.back x pre _ (hx x skA)];dsimp only;rw [e2,<-laA,rI h l (pre++enc1 x) post (fun y hy=>hx y (by simp [hy]))];dsimp only;simp [WP]
theorem lr (h:ir ok1 enc1 rd1) (bs:List UInt8):∀(n a:Nat) (l:List α) (b:Nat),a<=bs.length->bC (rd1 bs) n a= .ok (l,b)->l.length=n/\(∀x∈l,ok1 x)/\b=a+(l.flatMap enc1).length/\b<=bs.length/\(bs.drop a).take (l.flatMap enc1).length=l.flatMap enc1
 |0,a,l,b,ha,hr=>by
  simp only [bC] at hr;cases hr;exact ⟨rfl,skA,skA,ha,skA⟩
 |n+1,a,l,b,ha,hr=>by
  simp only [bC] at hr;cases hr1:rd1 bs a with
  |error p=>rw [hr1] at hr;cases hr
  |ok v=>
   rw [hr1] at hr;dsimp only at hr;obtain ⟨o1,e1,l1,t1⟩:=h.fwd bs a v.1 v.2 ha hr1;cases hr2:bC (rd1 bs) n v.2 with
   |error p=>rw [hr2] at hr;cases hr
   |ok u=>
    rw [hr2] at hr;dsimp only at hr;cases hr;obtain ⟨n2,o2,e2,l2,t2⟩:=lr h bs n v.2 u.1 u.2 l1 hr2;refine ⟨by simp [n2],?_,by rw [Vh,laA];omega,l2,?_⟩
    .intro x hx;rcases Ve.1 hx with rfl|hx
     .exact o1
     .exact o2 x hx
    .rw [Vh,laA,List.take_add,t1,Wu,<-e1,t2]
theorem lu (h:ir ok1 enc1 rd1) (bs:List UInt8):∀(n a p:Nat),a<=bs.length->bC (rd1 bs) n a= .error p->p<=bs.length
 |0,a,p,ha,hr=>by simp only [bC] at hr;cases hr
 |n+1,a,p,ha,hr=>by
  simp only [bC] at hr;cases hr1:rd1 bs a with
  |error p'=>rw [hr1] at hr;cases hr;exact h.err bs a _ ha hr1
  |ok v=>
   rw [hr1] at hr;dsimp only at hr;obtain ⟨o1,e1,l1,t1⟩:=h.fwd bs a v.1 v.2 ha hr1;cases hr2:bC (rd1 bs) n v.2 with
   |error p'=>rw [hr2] at hr;cases hr;exact lu h bs n v.2 _ l1 hr2
   |ok u=>rw [hr2] at hr;cases hr
theorem th {each:Nat} (he:∀x,(enc1 x).length=each):∀l:List α,(l.flatMap enc1).length=l.length*each
 | []=>by simp
 |x::l=>by rw [Vh,laA,he,th he l,VT,Ws,Nat.one_mul,Nat.add_comm]
theorem rJ (h:ir ok1 enc1 rd1) (each:Nat) (hp:0<each) (he:∀x,(enc1 x).length=each):
  ir (fun l:List α=>(∀x∈l,ok1 x)/\eO (l.length:Int)) (fun l=>be8 (l.length:Int)++l.flatMap enc1) (fun bs a=>ik bs each (rd1 bs) a):=by
 refine ⟨fun l pre post hl=> ?_,fun bs a l b ha hr=> ?_,fun bs a p ha hr=> ?_⟩
 .have e1:pre++(be8 (l.length:Int)++l.flatMap enc1++post)=pre++(be8 (l.length:Int)++(l.flatMap enc1++post)):=(by rw [VM]);have e2:pre++(be8 (l.length:Int)++(l.flatMap enc1++post))=(pre++be8 (l.length:Int))++(l.flatMap enc1++post):=skA
  (try dsimp only);unfold ik;rw [e1,ec.back _ pre _ hl.2];dsimp only;have hfl:=th he l;have hge:(l.length:Int)<=(((pre++(be8 (l.length:Int)++(l.flatMap enc1++post))).length:Int)-((pre.length+(be8 (l.length:Int)).length:Nat):Int)).tdiv (each:Int):=by
   rw [WH (by simp only [laA];omega)];refine (Int.le_ediv_iff_mul_le oA).2 ?_;simp only [laA,hfl]
   push_cast;omega
  rw [if_neg oA,e2,<-laA,WM,rI h l (pre++be8 (l.length:Int)) post hl.1];simp [WP]
 . (try dsimp only at hr);unfold ik at hr;cases hn:bB bs a with
  |error p=>rw [hn] at hr;cases hr
  |ok v=>
   rw [hn] at hr;dsimp only at hr;split at hr
   .cases hr
   .rename_i ho;obtain ⟨o1,e1,l1,t1⟩:=ec.fwd bs a v.1 v.2 ha hn;obtain ⟨n2,o2,e2,l2,t2⟩:=lr h bs v.1.toNat v.2 l b l1 hr;have hv:v.1=(l.length:Int):=oA;rw [hv] at o1 e1 t1;refine ⟨⟨o2,o1⟩,by rw [laA];omega,l2,?_⟩
    (try dsimp only);rw [laA,List.take_add,t1,Wu,<-e1,t2]
 . (try dsimp only at hr);unfold ik at hr;cases hn:bB bs a with
  |error p'=>rw [hn] at hr;cases hr;exact ec.err bs a _ ha hn
  |ok v=>
   rw [hn] at hr;dsimp only at hr;obtain ⟨o1,e1,l1,t1⟩:=ec.fwd bs a v.1 v.2 ha hn;split at hr
   .cases hr;exact ha
   .exact lu h bs _ v.2 p l1 hr
end
theorem tT {α β γ:Type} (x:Rd α) (f:α->Nat->Rd β) (g:β->Nat->Rd γ):thn (thn x f) g=thn x fun v a=>thn (f v a) g:=by cases x<;>rfl
theorem AW {α β:Type} (v:α) (a:Nat) (f:α->Nat->Rd β):thn (.ok (v,a)) f=f v a:=rfl
def okL (l:List Int):Prop:=(∀x∈l,eO x)/\eO (l.length:Int)
theorem Ab:ir okL iv gA:=rJ ec 8 oA au
def okR (u:bK):Prop:=eO u.at_/\eO u.by_
theorem Aa:ir okR lF fi:=
 (ec.seq ec).iso (fun x=>(⟨x.1,x.2⟩:bK)) (fun u=>(u.at_,u.by_)) (fun _=>rfl) (fun _=>rfl) (fun _=>Iff.rfl) (fun _=>by simp [lF]) (fun bs a=>by simp only [fi,tT,AW])
theorem BJ (u:bK):(lF u).length=16:=by simp [lF,au]
def okP (l:List bK):Prop:=(∀x∈l,okR x)/\eO (l.length:Int)
theorem wU:ir okP Jl eS:=rJ Aa 16 oA BJ
def ox (p:bq):Prop:=wf8 p.op/\eO p.side/\eO p.place/\eO p.target/\okL p.ids/\okP p.pairs
theorem nN:ir ox dq eI:=
 (wT.seq (ec.seq (ec.seq (ec.seq (Ab.seq wU))))).iso
  (fun x=>(⟨x.1,x.2.1,x.2.2.1,x.2.2.2.1,x.2.2.2.2.1,x.2.2.2.2.2⟩:bq)) (fun u=>(u.op,u.side,u.place,u.target,u.ids,u.pairs)) (fun _=>rfl) (fun _=>rfl) (fun _=>Iff.rfl) (fun _=>by simp [dq]) (fun bs a=>by simp only [eI,tT,AW])
section
variable {α:Type} {ok:α->Prop} {enc:α->List UInt8} {rd:List UInt8->Nat->Rd α}
theorem ir.whole_more (h:ir ok enc rd) {x:α} (hx:ok x) (more:List UInt8):fZ rd (enc x++more)=if more=[] then .ok x else .error (enc x).length:=by
 unfold fZ;have:=h.back x [] more hx;simp only [Wf,Wy,VS] at this;rw [this];dsimp only;rw [laA];cases more with
 |nil=>simp
 |cons y l=>simp
theorem ir.whole_back (h:ir ok enc rd) {x:α} (hx:ok x):fZ rd (enc x)= .ok x:=by
 have:=h.whole_more hx [];rwa [Wq,if_pos rfl] at this
theorem ir.whole_fwd (h:ir ok enc rd) {x:α} {bs:List UInt8} (hr:fZ rd bs= .ok x):ok x/\enc x=bs:=by
 unfold fZ at hr;cases hr1:rd bs 0 with
 |error p=>rw [hr1] at hr;cases hr
 |ok v=>
  rw [hr1] at hr;dsimp only at hr;split at hr
  .cases hr
  .rename_i hl;cases hr;obtain ⟨o,e,l,t⟩:=h.fwd bs 0 v.1 v.2 (Vo _) hr1;refine ⟨o,?_⟩;rw [List.drop_zero] at t;rw [<-t,Vj oA]
end
theorem gG {n:Nat} (h:n<=1000000000000000):eO (n:Int):=by
 simp only [eO,Lit.wf,IntKind.min,IntKind.max,IntKind.signed,IntKind.bits];simp;omega
theorem mI.okL {w:World} {s:Sl} {l:List Int} (h:mI w s l):okL l:=⟨h.2.2.2.2.2,gG (by have h1:=h.2.1;have h2:=h.2.2.2.2.1;omega)⟩
theorem ju.okP {w:World} {s:Sl} {l:List bK} (h:ju w s l):okP l:=⟨h.2.2.2.2.2,gG (by have h1:=h.2.1;have h2:=h.2.2.2.2.1;omega)⟩
theorem eK.ok {w:World} {p:bq} {h:dt} (a:eK w p h):ox p:=⟨a.op,a.side,a.place,a.target,a.ids.okL,a.pairs.okP⟩
end
end Go.Proofs.YtioigihakjlopaaGreat

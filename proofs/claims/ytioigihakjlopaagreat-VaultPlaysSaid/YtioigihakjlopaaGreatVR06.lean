import Derived.Test.YtioigihakjlopaaGreatVR05
import Derived.Defers
import Derived.Recover
import Derived.Lib.SliceRun
namespace Go.Proofs.YtioigihakjlopaaGreat
open Go.Proofs.Tryz
set_option linter.unusedVariables false
set_option linter.unusedSimpArgs false
set_option maxHeartbeats 16000000
set_option maxRecDepth 100000
section
open Go.RowKit
theorem gJ:lY prog 38 6:=⟨⟨_,underlying38,rfl⟩,krA⟩
theorem qd {w:As} {g:Nat} {cs:AS} {t:TypeId} (h:Blk w g cs t):w.setRow g cs=w:=by
 have e:(w.setRow g cs).heap=w.heap:=by
  apply XA;intro i;by_cases A:i=g
  .subst A;have B:w.heap[i]? =_:=h;rw [setRow_heap w i cs cs t (0,0) B,B]
  .exact Wf _ _ _ _ A
 have:w.setRow g cs={w with heap:=(w.setRow g cs).heap}:=rfl;rw [this,e]
theorem KP (v:Value) (w:As):(Instr.typeAssert (.iface 218 v) 20 218 true).run prog w= .ok (.tuple #[v,.bool true]) w:=by kernel_rfl
def kH:Sl:=⟨none,0,0⟩
theorem yo (B C D E:Nat) (w:As):
  CallsD prog 152 #[.pointer (some ⟨B,0,none⟩),.pointer (some ⟨C,0,none⟩),.pointer (some ⟨D,0,none⟩),.pointer (some ⟨E,0,none⟩)] .returning w fun e F w'=>
   e= .returned (.tuple #[])/\F= .returning/\w'=w:=by
 refine callsD_of_wpS func152 rfl fun A cs G=> ?_;apply wpS_seq;apply wpS_region;simp [wpOpsS,go_sem,recoverD,G,ntmps152,Exit.thenS];refine wpS_of_wp ?_;go_wp2_with fail;cases A;simp_all [bodyPostS,results,Tryz.results152]
theorem oF (D B A C p:Nat) (V:List PanicEntry) (zs H:AS) (a0 e0:Int) (w:As) (T:Blk w D zs 38) (hx:Blk w B H 38) (L:Blk w A #[.int .i64 a0] 3) (M:Blk w C #[.int .i64 e0] 29) (X:zs.size=6) (hcs:H.size=6) (r:zs.toList.all (·.oneCell')=true) (s:B≠D):
  CallsD prog 152 #[.pointer (some ⟨D,0,none⟩),.pointer (some ⟨B,0,none⟩),.pointer (some ⟨A,0,none⟩),.pointer (some ⟨C,0,none⟩)] (.panicking ({v:= .iface 218 (.agg #[.int .i64 (p:Int)]),recovered:=false}::V)) w fun e u' w'=>
   e= .returned (.tuple #[])/\u'= .panicking ({v:= .iface 218 (.agg #[.int .i64 (p:Int)]),recovered:=true}::V)/\Blk w' B zs 38/\Blk w' A #[.int .i64 (p:Int)] 3/\Blk w' C #[.int .i64 180] 29/\aJ (fun x=>x=B\/x=A\/x=C) w w':=by
 refine callsD_of_wpS func152 rfl fun c₀ cs hu=> ?_;apply wpS_seq;apply wpS_region;simp [wpOpsS,go_sem,recoverD,hu,ntmps152,Exit.thenS];refine wpS_of_wp ?_;have Z: #[Value.pointer (some ⟨D,0,none⟩),.pointer (some ⟨B,0,none⟩),.pointer (some ⟨A,0,none⟩),.pointer (some ⟨C,0,none⟩)]++(Array.replicate 12 undef).setIfInBounds 3 (.iface 218 (.agg #[.int .i64 (p:Int)]))= #[.pointer (some ⟨D,0,none⟩),.pointer (some ⟨B,0,none⟩),.pointer (some ⟨A,0,none⟩),.pointer (some ⟨C,0,none⟩),undef,undef,undef,.iface 218 (.agg #[.int .i64 (p:Int)]),undef,undef,undef,undef,undef,undef,undef,undef]:=rfl;rw [Z];clear Z;have t:=KP;go_upto_region 7 with fail;obtain ⟨Y,U⟩:=At w.heap.size;rw [<-U];refine ag (fun W=>Blk W Y #[.int .i64 (p:Int)] 218/\Below w.heap.size w W) ⟨by rw [U];exact Blk.new w _ _,cL⟩ ?_;rintro w1 ⟨y,E⟩;have A0:=T.old E;have b:=hx.old E;have A1:=L.old E;have A2:=M.old E;have A8:B<w.heap.size:=hx.lt;have A9:A<w.heap.size:=L.lt;have BY:C<w.heap.size:=M.lt;have c:A≠B:=L.ne hx dcA;have d:C≠B:=M.ne hx dcA;have f:C≠A:=M.ne L dcA;have B0:w.heap.size<=Y:=oA;have A3:A≠D:=L.ne T dcA;have A4:C≠D:=M.ne T dcA;clear U;refine ah false (au (fun x=>x=D\/x=Y)) (au.refl _) (fun _ _ _ h1 h2=>au.trans h1 h2) (.step 0 (.step 1 (.step 2 (.step 3 (.step 4 (.step 5 .done)))))) krA krA cdA ?_;have o:∀W,au (fun x=>x=D\/x=Y) w1.drew W->Blk W D zs 38:=fun W N=>(N.2 _ (.inl rfl)).trans A0;have ky:∀W,au (fun x=>x=D\/x=Y) w1.drew W->∀i,W.cell? ⟨Y,i,none⟩= #[Value.int .i64 (p:Int)][i]? :=fun W N=>(show Blk W Y _ _ from (N.2 _ (.inr rfl)).trans y).rule;refine bM (v:= .agg zs) rfl rfl rfA (fun W N=>aI 38 gJ _ rfl rfl (cs:=zs.toList) rfl (fun j q=>by rw [VN,(o W N).rule j];simp at q;simp [q]) (by simpa using X)) ?_;simp only [Act.put,sTA,List.set]
 repeat refine txA ?_
 refine am rfl rfl rfA (fun K F=> ?_);refine bq 38 gJ _ _ rfl rfl rfl b.drew X oA r ?_;have P:=b.drew.setRow (cU H 0 zs);have J:∀x,x≠B->(w1.drew.setRow B (cU H 0 zs)).heap[x]? =w1.heap[x]? :=fun x hx=>Wf _ _ _ _ hx;obtain ⟨G,I⟩:=At (w1.drew.setRow B (cU H 0 zs));rw [<-I] at P J⊢;have g:w1.heap.size<=G.heap.size:=(by rw [I];simp [World.setRow]);have A5:aJ (fun x=>x=B\/x=A\/x=C) w G:=by
  refine ⟨?_,?_,?_,Vd E.size g,fun k hk hf=>(J k fun e=>hf (.inl e)).trans (E.block k hk)⟩
  .rw [I];exact E.os
  .rw [I];exact E.tape
  .rw [I];exact E.output
 have A6:cU H 0 zs=zs:=by
  unfold cU;rw [List.take_zero,Wl,Xp (by rw [Xe];omega),WO]
 rw [A6] at P;refine F _ _ ⟨g,fun x hx=>J x (by rcases hx with rfl|rfl;exact Vl s;omega)⟩ ?_;clear F K I o ky t;have R:Blk G A _ _:=(J A c).trans A1;have A7:Blk G C _ _:=(J C d).trans A2;have ca:=R.rule;have fa:=R.free;refine am rfl rfl rfA (fun K F=> ?_);go_wp2_with fail;refine F _ _ ⟨skA,fun x hx=>Vq _ _ _ _ (by rcases hx with rfl|rfl;exact Vl A3;show x≠A;omega)⟩ ?_;clear F K;have l:Blk (G.setCell ⟨A,0,none⟩ (.int .i64 (p:Int))) B zs 38:=(Vq _ _ _ _ (Vl c)).trans P;have m:=R.set 0 (.int .i64 (p:Int));have O:Blk (G.setCell ⟨A,0,none⟩ (.int .i64 (p:Int))) C _ _:=(Vq _ _ _ _ f).trans A7;have n:=A5.setCell (x:=⟨A,0,none⟩) (.inl (.inr (.inl rfl))) (.int .i64 (p:Int));obtain ⟨w3,S⟩:=At (G.setCell ⟨A,0,none⟩ (.int .i64 (p:Int)));rw [<-S] at l m O n⊢;have B1:G.heap.size<=w3.heap.size:=(by rw [S];simp);have ce:=O.rule;have fe:=O.free;clear S ca fa;refine am rfl rfl rfA (fun K F=> ?_);go_wp2_with fail;refine F _ _ ⟨skA,fun x hx=>Vq _ _ _ _ (by rcases hx with rfl|rfl;exact Vl A4;show x≠C;omega)⟩ ?_;clear F K;refine aq ?_;go_wp2_with fail;refine ⟨rfl,_,rfl,.tuple #[],WZ rfl _ _ _,rfl,rfl,?_,?_,?_,?_⟩
 .exact (Vq _ _ _ _ (Vl d)).trans l
 .exact (Vq _ _ _ _ (Vl f)).trans m
 .exact O.set 0 (.int .i64 180)
 .exact n.setCell (.inl (.inr (.inr rfl))) _
theorem bu.turned {w w':As} {B:Nat} {F:Nat->Prop} {p:bF} {h:dy} (a:bu w B p h) (A:aJ F w w') (C:∀x,F x->x<B):bu w' B p h:=
 ⟨a.op,a.side,a.place,a.target,ax.turn a.ids A C,aQ.turn a.pairs A C⟩
def dR:bF:=⟨0,0,0,0,[],[]⟩
def lR:dy:=⟨kH,kH⟩
def ec (bs:Le):bF×Nat×Int:=match gC eX bs with
 | .error k=>(dR,k,180)
 | .ok p=>(p,0,0)
theorem LI (w:As) (a:Lt) (n cap:Nat) (bs:Le) (hb:aj w a bs) (hn:bs.length=n) (hm:n<=1048576):
  Calls prog 124 #[.slice a n cap,.func (.func 121) #[] #[]] w fun e w'=>∃h,e= .returned (.tuple #[bK (ec bs).1 h,.int .i64 ((ec bs).2.1:Int),.int .i64 (ec bs).2.2])/\bu w' w.heap.size (ec bs).1 h/\Below w.heap.size w w':=by
 have D4:∀(fn:Fn) (first cap:AS) (w:As),(Instr.makeFunc fn first cap).run prog w= .ok (.func fn first cap) w:=fun _ _ _ _=>rfl;have b:=Hd hn;clear hn;go_enter_defers func124,ntmps124;go_upto_region 4 with fail;obtain ⟨X,T⟩:=At w.heap.size;obtain ⟨A,U⟩:=At (w.heap.size+1);obtain ⟨E,V⟩:=At (w.heap.size+1+1);obtain ⟨Z,Y⟩:=At (w.heap.size+1+1+1);rw [<-Y,<-V,<-U,<-T];refine ag (fun W=>Blk W X (aw dR lR).toArray 38/\Blk W A #[.int .i64 0] 3/\Blk W E #[.int .i64 0] 29/\Blk W Z (aw dR lR).toArray 38/\Below w.heap.size w W) ⟨?_,?_,?_,?_,cL⟩ ?_
 .rw [T];exact (Blk.new3 w (aw dR lR).toArray 38 _ _).alloc _
 .rw [U];exact (Blk.new3' w #[.int .i64 0] 3 _ _).alloc _
 .rw [V];exact (Blk.new3'' w #[.int .i64 0] 29 _ _).alloc _
 .have:=Blk.new (((w.alloc (.cells (aw dR lR).toArray 38)).alloc (.cells #[.int .i64 0] 3)).alloc (.cells #[.int .i64 0] 29)) (aw dR lR).toArray 38;rw [Y];have e:(((w.alloc (.cells (aw dR lR).toArray 38)).alloc (.cells #[.int .i64 0] 3)).alloc (.cells #[.int .i64 0] 29)).heap.size=w.heap.size+1+1+1:=skA;rw [e] at this;exact this
 rintro c ⟨o,A5,A6,q,CK⟩;have D5:=q.lt;have CW:=Hd (show X=w.heap.size/\A=w.heap.size+1/\E=w.heap.size+1+1/\Z=w.heap.size+1+1+1 from ⟨T,U,V,Y⟩);clear T U V Y;go_upto_region 6 with fail;obtain ⟨C,hC⟩:=At c.heap.size;rw [<-hC];refine ag (fun W=>Blk W C #[.slice a n cap,.int .i64 0,.bool true] 184/\Below c.heap.size c W) ⟨by rw [hC];exact Blk.new c _ _,cL⟩ ?_;rintro H ⟨A7,I⟩;obtain ⟨T,U,V,Y⟩:=CW.out;have C0:aj H a bs:=hb.below (aa CK I);have B5:InB w.heap.size a bs.length:=fun hp ad ha=>by
  obtain ⟨b',o',e1,e2⟩:=hb 0 (by simpa using hp);rw [ha] at e1;cases e1;exact Vx w _ e2
 have hq:RAt H w.heap.size ⟨C,a,cap,bs,0⟩:=⟨by show w.heap.size<=C;omega,by unfold iu;dsimp only;rw [b.out];exact A7,C0,B5,Vt _,by show bs.length<=_;rw [b.out];exact hm⟩;have r:w.heap.size<=H.heap.size:=(by have:=I.size;omega);have cb:=GO H w.heap.size ⟨C,a,cap,bs,0⟩ X _ 38 dR lR hq r (o.old I) rfl oA (by show X≠C;omega);dsimp only at cb;have s:=q.old I;have t:=A5.old I;have y:=A6.old I;have A0:X≠A:=oA;have A1:X≠Z:=oA;have D6:C≠X:=oA;have C1:C≠A:=oA;have C2:C≠E:=oA;have C3:C≠Z:=oA;have A8:X≠E:=oA;have D7:c.heap.size<=H.heap.size:=I.size;have C4:w.heap.size<=X/\w.heap.size<=A/\w.heap.size<=E/\w.heap.size<=Z/\X<H.heap.size/\A<H.heap.size/\E<H.heap.size/\Z<H.heap.size:=oA;have C9:=Hd C4;have B6:Below w.heap.size w H:=CK.trans (I.mono oA);clear T U V Y hC C0 B5 C4;go_wp2_with fail;refine cb.mono ?_;clear cb;rintro e D m;obtain ⟨l1,l2,l3,l4,l5,l6,l7,l8⟩:=C9.out;have B7:((aw dR lR).toArray).toList.all (·.oneCell')=true:=rfl;have B4:∀(W:As) (B:Nat),bu W B dR lR:=fun W B=>
  have h0:ax W B kH []:=ax.nil _ _
  have h1:aQ W B kH []:=aQ.nil _ _
  have hz:ff 0:=by show (Lit.int .i64 0).wf=true;decide
  have DO:wf8 0:=by show (Lit.int .i8 0).wf=true;decide
  ⟨DO,hz,hz,hz,h0,h1⟩
 have has:∀(ad:Addr) (w:As),(asAddr (.pointer (some ad))).run prog w= .ok ad w:=fun _ _=>rfl;rcases hr:eX bs 0 with k|⟨p,k⟩
 .obtain ⟨rfl,P⟩:=m.err hr;have d:=Hd (show ec bs=(dR,k,180) by unfold ec gC;rw [hr]);have A9:Blk D Z _ _:=(P.turn.block Z l8 (by rintro (h|h);exact C3 h.symm;exact A1 h.symm)).trans s;have R:Blk D A _ _:=(P.turn.block A l6 (by rintro (h|h);exact C1 h.symm;exact A0 h.symm)).trans t;have A2:Blk D E _ _:=(P.turn.block E l7 (by rintro (h|h);exact C2 h.symm;exact A8 h.symm)).trans y;obtain ⟨A3,J,BY⟩:=P.blk _ (o.old I);have S:Below w.heap.size w D:=B6.trans (P.below hq l1 r);clear m P s t y A7 o A5 A6 q hr;go_wp2_with fail;refine leaves_cons (f:=152) (args:= #[.pointer (some ⟨Z,0,none⟩),.pointer (some ⟨X,0,none⟩),.pointer (some ⟨A,0,none⟩),.pointer (some ⟨E,0,none⟩)]) skA (by simp [go_sem]) ?_;refine (oF Z X A E k [] _ A3 0 0 D A9 J R A2 rfl (by rw [BY];rfl) B7 A1).mono ?_;rintro e u' G ⟨rfl,rfl,B0,B1,M,B2⟩;have B3:Below w.heap.size w G:=S.trans (B2.below (fun x hx=>by rcases hx with rfl|rfl|rfl<;>assumption) (by have:=S.size;exact this))
  have g:(loadVar 38 ⟨X,0,none⟩).run prog G= .ok (bK dR lR) G:=dv gJ (cs:=aw dR lR) (fun j l=>by rw [VN,B0.rule j];simp [l]) rfl;have N:(loadVar 3 ⟨A,0,none⟩).run prog G= .ok (.int .i64 (k:Int)) G:=by
   have:=B1.rule 0;simp [loadVar,go_sem,this]
  have O:(loadVar 29 ⟨E,0,none⟩).run prog G= .ok (.int .i64 180) G:=by
   have:=M.rule 0;simp [loadVar,go_sem,this]
  refine ⟨.tuple #[bK dR lR,.int .i64 (k:Int),.int .i64 180],?_,?_⟩
  .simp [results,Tryz.results124,has,g,N,O]
  .rw [d.out];exact ⟨lR,rfl,B4 _ _,B3⟩
 .obtain ⟨rfl,h,B9,L⟩:=m.ok hr;have A9:Blk D Z _ _:=(L.turn.block Z l8 (by rintro (h|h);exact C3 h.symm;exact A1 h.symm)).trans s;have R:Blk D A _ _:=(L.turn.block A l6 (by rintro (h|h);exact C1 h.symm;exact A0 h.symm)).trans t;have A2:Blk D E _ _:=(L.turn.block E l7 (by rintro (h|h);exact C2 h.symm;exact A8 h.symm)).trans y;have J:=L.blk;have S:Below w.heap.size w D:=B6.trans (L.below hq l1 r);have C5:k<=bs.length:=L.at'.le;have cc:=L.at'.blk.rule;unfold iu RC.to at cc;dsimp only at cc;rw [b.out] at cc C5;clear m s t y A7 o A5 A6 q L;by_cases hk:k<n
  .have d:=Hd (show ec bs=(dR,k,180) by unfold ec gC;rw [hr];dsimp only;rw [Vz (by rw [b.out];exact hk)]);have d1:decide ((k:Int)<(n:Int))=true:=soA;obtain ⟨A3,A4⟩:=At ((aw p h).toArray);have BY:A3.size=(aw dR lR).toArray.size:=(by rw [A4];rfl);rw [<-A4] at J;clear hr C5 A4 B9;go_wp2_with fail;refine leaves_cons (f:=152) (args:= #[.pointer (some ⟨Z,0,none⟩),.pointer (some ⟨X,0,none⟩),.pointer (some ⟨A,0,none⟩),.pointer (some ⟨E,0,none⟩)]) skA (by simp [go_sem]) ?_;refine (oF Z X A E k [] _ A3 0 0 D A9 J R A2 rfl (by rw [BY];rfl) B7 A1).mono ?_;rintro e u' G ⟨rfl,rfl,B0,B1,M,B2⟩;have B3:Below w.heap.size w G:=S.trans (B2.below (fun x hx=>by rcases hx with rfl|rfl|rfl<;>assumption) (by have:=S.size;exact this))
   have g:(loadVar 38 ⟨X,0,none⟩).run prog G= .ok (bK dR lR) G:=dv gJ (cs:=aw dR lR) (fun j l=>by rw [VN,B0.rule j];simp [l]) rfl;have N:(loadVar 3 ⟨A,0,none⟩).run prog G= .ok (.int .i64 (k:Int)) G:=by
    have:=B1.rule 0;simp [loadVar,go_sem,this]
   have O:(loadVar 29 ⟨E,0,none⟩).run prog G= .ok (.int .i64 180) G:=by
    have:=M.rule 0;simp [loadVar,go_sem,this]
   refine ⟨.tuple #[bK dR lR,.int .i64 (k:Int),.int .i64 180],?_,?_⟩
   .simp [results,Tryz.results124,has,g,N,O]
   .rw [d.out];exact ⟨lR,rfl,B4 _ _,B3⟩
  .have hkn:k=n:=oA;have d:=Hd (show ec bs=(p,0,0) by unfold ec gC;rw [hr];dsimp only;rw [VV (by rw [b.out];exact hk)]);have d1:decide ((k:Int)<(n:Int))=false:=soA;have C7:D.setRow X (aw p h).toArray=D:=qd J;have N:=R.rule;have fa:=R.free;have C6:E≠A:=(by have:=CW.out;omega);have M:Blk (D.setCell ⟨A,0,none⟩ (.int .i64 0)) E #[.int .i64 0] 29:=(Vq _ _ _ _ C6).trans A2;have O:=M.rule;have fe:=M.free;have D8:A≠X:=Vl A0;have D0:Blk ((D.setCell ⟨A,0,none⟩ (.int .i64 0)).setCell ⟨E,0,none⟩ (.int .i64 0)) X (aw p h).toArray 38:=((Vq _ _ _ _ A8).trans (Vq _ _ _ _ A0)).trans J;have D1:Blk ((D.setCell ⟨A,0,none⟩ (.int .i64 0)).setCell ⟨E,0,none⟩ (.int .i64 0)) A #[.int .i64 0] 3:=(Vq _ _ _ _ (Vl C6)).trans (R.set 0 (.int .i64 0));have D2:Blk ((D.setCell ⟨A,0,none⟩ (.int .i64 0)).setCell ⟨E,0,none⟩ (.int .i64 0)) E #[.int .i64 0] 29:=M.set 0 (.int .i64 0);have D3:Below w.heap.size w ((D.setCell ⟨A,0,none⟩ (.int .i64 0)).setCell ⟨E,0,none⟩ (.int .i64 0)):=(S.setCell l2 _).setCell l3 _;have C8:bu ((D.setCell ⟨A,0,none⟩ (.int .i64 0)).setCell ⟨E,0,none⟩ (.int .i64 0)) w.heap.size p h:=
    (B9.turned (F:=fun x=>x=A\/x=E) (((aJ.refl _ D).setCell (x:=⟨A,0,none⟩) (.inl (.inl rfl)) _).setCell (x:=⟨E,0,none⟩) (.inl (.inr rfl)) _) (fun x hx=>by rcases hx with rfl|rfl<;>assumption)).lower r
   go_wp2_with (first|refine ap rfl 38 gJ (.tmp 4) rfl rfl J rfl ?_|(refine ae rfl 38 gJ (.tmp 4) _ rfl rfl rfl J rfl rfl rfl ?_;rw [C7]));refine leaves_cons (f:=152) (args:= #[.pointer (some ⟨Z,0,none⟩),.pointer (some ⟨X,0,none⟩),.pointer (some ⟨A,0,none⟩),.pointer (some ⟨E,0,none⟩)]) skA (by simp [go_sem]) ?_;refine (yo Z X A E _).mono ?_;rintro e u' G ⟨rfl,rfl,rfl⟩;clear N O;have g:(loadVar 38 ⟨X,0,none⟩).run prog _= .ok (bK p h) _:=dv gJ (cs:=aw p h) (fun j l=>by rw [VN,D0.rule j];simp [l]) rfl;have N:(loadVar 3 ⟨A,0,none⟩).run prog ((D.setCell ⟨A,0,none⟩ (.int .i64 0)).setCell ⟨E,0,none⟩ (.int .i64 0))= .ok (.int .i64 0) ((D.setCell ⟨A,0,none⟩ (.int .i64 0)).setCell ⟨E,0,none⟩ (.int .i64 0)):=by
    have:=D1.rule 0;simp [loadVar,go_sem,this]
   have O:(loadVar 29 ⟨E,0,none⟩).run prog ((D.setCell ⟨A,0,none⟩ (.int .i64 0)).setCell ⟨E,0,none⟩ (.int .i64 0))= .ok (.int .i64 0) ((D.setCell ⟨A,0,none⟩ (.int .i64 0)).setCell ⟨E,0,none⟩ (.int .i64 0)):=by
    have:=D2.rule 0;simp [loadVar,go_sem,this]
   refine ⟨.tuple #[bK p h,.int .i64 0,.int .i64 0],?_,?_⟩
   .simp [results,Tryz.results124,has,g,N,O]
   .rw [d.out];exact ⟨h,rfl,C8,D3⟩
theorem xG (w:As) (a:Lt) (n cap:Nat) (bs:Le) (U:aj w a bs) (J:bs.length=n) (V:n<=1048576):
  Calls prog 85 #[.slice a n cap] w fun e w'=>∃h,e= .returned (.tuple #[bK (ec bs).1 h,.int .i64 ((ec bs).2.1:Int),.int .i64 (ec bs).2.2])/\bu w' w.heap.size (ec bs).1 h/\Below w.heap.size w w':=by
 have Y:=Hd J;clear J;go_enter func85,ntmps85;go_upto_region 1 with fail;obtain ⟨X,A⟩:=At w.heap.size;rw [<-A];refine ag (fun W=>Blk W X (aw dR lR).toArray 38/\Below w.heap.size w W) ⟨by rw [A];exact Blk.new w (aw dR lR).toArray _,cL⟩ ?_;rintro Z ⟨G,B⟩;have P:=G.lt;have R:w.heap.size<=X:=VM A.symm;clear A;have D:=LI Z a n cap bs (U.below B) Y.out V;obtain ⟨p,E⟩:=At ((ec bs).1);obtain ⟨k,F⟩:=At ((ec bs).2.1);obtain ⟨b,C⟩:=At ((ec bs).2.2);rw [<-E,<-F,<-C] at D;have c:=Hd E;have d:=Hd F;have f:=Hd C;clear E F C;go_wp2_with fail;refine D.mono ?_;clear D;rintro e L ⟨h,rfl,O,H⟩;have I:=G.old H;have S:Blk (L.setRow X (aw p h).toArray) X (aw p h).toArray 38:=I.setRow _;have N:=(O.setRow X (aw p h).toArray P).lower B.size;have T:Below w.heap.size w (L.setRow X (aw p h).toArray):=ak (aa B H) R _;rw [dM];go_wp2_with (refine ae rfl 38 gJ (.tmp 2) _ rfl rfl rfl I rfl rfl rfA ?_);have has:∀(M:Addr) (w:As),(asAddr (.pointer (some M))).run prog w= .ok M w:=fun _ _=>rfl;have g:(loadVar 38 ⟨X,0,none⟩).run prog _= .ok (bK p h) _:=dv gJ (cs:=aw p h) (fun j l=>by rw [VN,S.rule j];simp [l]) rfl;refine YO (v:= .tuple #[bK p h,.int .i64 (k:Int),.int .i64 b]) ?_ rfl ?_
 .simp [results,Tryz.results85,has,g]
 .rw [<-c.out,<-d.out,<-f.out];exact ⟨h,rfl,N,T⟩
end
section
open Go.RowKit
def BF (l:Le):Nat:=l.foldl (fun n y=>n*256+y.toNat) 0
theorem vS (l:Le) (y:UInt8):BF (l++ [y])=BF l*256+y.toNat:=by
 unfold BF;rw [ZS];rfl
theorem yU {P:Le->Prop} (A:P []) (B:∀l y,P l->P (l++ [y])) (l:Le):P l:=by
 have h:∀l:Le,P l.reverse:=fun l=>by
  induction l with
  |nil=>exact A
  |cons y l ih=>rw [List.reverse_cons];exact B _ _ ih
 have:=h l.reverse;rwa [List.reverse_reverse] at this
theorem JG (l:Le):BF l<256^l.length:=by
 refine yU (P:=fun l=>BF l<256^l.length) ?_ (fun l y A=> ?_) l
 .simp [BF]
 .rw [vS,laA,Xq,Ze];have:=y.toNat_lt;omega
theorem CP (l:Le) (y:UInt8):rdB (l++ [y])=(rdB l<<<8|||y.toBitVec.setWidth 64):=by
 unfold rdB;rw [ZS];rfl
theorem CQ (l:Le) (h:l.length<=8):(rdB l).toNat=BF l:=by
 revert h;refine yU (P:=fun l=>l.length<=8->(rdB l).toNat=BF l) ?_ (fun l y A h=> ?_) l
 .intro _;rfl
 .rw [laA,Xq] at h;have B:=A oA;have F:=JG l;have G:256^l.length<=256^7:=Nat.pow_le_pow_right oA oA;have C:y.toBitVec.toNat=y.toNat:=rfl;have E:=y.toNat_lt;rw [CP,vS,BitVec.toNat_or,Xs,Xj,B,C,Wn (a:=y.toNat) oA];have D:BF l<<<8%2^64=BF l<<<8:=by
   rw [YZ];exact Wn oA
  rw [D,<-Nat.shiftLeft_add_eq_or_of_lt oA,YZ]
def KL (v:BitVec 64):Le:=(List.range 8).map fun i=>⟨(v>>>(56-8*i)).setWidth 8⟩
theorem zT (n:Int):be8 n=KL (BitVec.ofInt 64 n):=rfl
theorem gI (v:BitVec 64) (k:Nat):(⟨(v>>>k).setWidth 8⟩:UInt8).toNat=v.toNat/2^k%256:=by
 show ((v>>>k).setWidth 8).toNat=_;rw [Xj,YF,XS]
theorem wM (v:BitVec 64):KL v=[⟨(v>>>56).setWidth 8⟩,⟨(v>>>48).setWidth 8⟩,⟨(v>>>40).setWidth 8⟩,⟨(v>>>32).setWidth 8⟩,⟨(v>>>24).setWidth 8⟩,⟨(v>>>16).setWidth 8⟩,⟨(v>>>8).setWidth 8⟩,⟨(v>>>0).setWidth 8⟩]:=rfl
theorem zl (v:BitVec 64):rdB (KL v)=v:=by
 apply Wx;rw [CQ _ (by simp [KL]),wM];simp only [BF,List.foldl,gI];have:=v.isLt;omega
theorem zU (l:Le) (h:l.length=8):KL (rdB l)=l:=by
 match l,h with
 | [a,b,c,d,e,f,g,i],_=>
  have A:=CQ [a,b,c,d,e,f,g,i] skA;simp only [BF,List.foldl] at A;have B:=a.toNat_lt;have C:=b.toNat_lt;have D:=c.toNat_lt;have E:=d.toNat_lt;have F:=e.toNat_lt;have G:=f.toNat_lt;have H:=g.toNat_lt;have I:=i.toNat_lt;rw [wM];congr 1
  .apply Wt.1;rw [gI,A];omega
  congr 1
  .apply Wt.1;rw [gI,A];omega
  congr 1
  .apply Wt.1;rw [gI,A];omega
  congr 1
  .apply Wt.1;rw [gI,A];omega
  congr 1
  .apply Wt.1;rw [gI,A];omega
  congr 1
  .apply Wt.1;rw [gI,A];omega
  congr 1
  .apply Wt.1;rw [gI,A];omega
  congr 1
  .apply Wt.1;rw [gI,A];omega
theorem qA (n:Int) (h:ff n):(BitVec.ofInt 64 n).toInt=n:=by
 rw [BitVec.toInt_ofInt];simp only [ff,Lit.wf,IntKind.min,IntKind.max,IntKind.signed,IntKind.bits] at h;simp at h;rw [Int.bmod_def];split<;>omega
structure iW {α:Type} (ok:α->Prop) (enc:α->Le) (rd:Le->Nat->Rd α):Prop where
 back:∀x pre post,ok x->rd (pre++(enc x++post)) pre.length= .ok (x,pre.length+(enc x).length)
 fwd:∀bs a x b,a<=bs.length->rd bs a= .ok (x,b)->ok x/\b=a+(enc x).length/\b<=bs.length/\(bs.drop a).take (enc x).length=enc x
 err:∀bs a p,a<=bs.length->rd bs a= .error p->p<=bs.length
theorem eD:iW ff be8 bO:=by
 refine ⟨fun x F E hx=> ?_,fun bs a x b B h=> ?_,fun bs a p B h=> ?_⟩
 .unfold bO;have A:=an x;rw [VV (by simp only [laA];omega),Yh,Xh oA,VZ oA,A,zT,zl,qA x hx]
 .unfold bO at h;split at h
  .cases h
  .rename_i hle;cases h;have A:((bs.drop a).take 8).length=8:=(by rw [ltA,ldA];omega);have e:be8 (rdB ((bs.drop a).take 8)).toInt=(bs.drop a).take 8:=by
    rw [zT,BitVec.ofInt_toInt,zU _ A]
   refine ⟨?_,by rw [an],oA,by rw [an,e]⟩;have C:=Xv (x:=rdB ((bs.drop a).take 8));have D:=Xw (x:=rdB ((bs.drop a).take 8));simp only [ff,Lit.wf,IntKind.min,IntKind.max,IntKind.signed,IntKind.bits];simp at C D⊢;omega
 .unfold bO at h;split at h
  .cases h;exact VU _
  .cases h
theorem qIO {n:Int} (h:wf8 n):ff n/\-128<=n/\n<=127:=by
 simp only [wf8,ff,Lit.wf,IntKind.min,IntKind.max,IntKind.signed,IntKind.bits] at*;simp at*;omega
theorem LJ {n:Int} (h:¬(n< -128\/127<n)):wf8 n:=by
 simp only [wf8,Lit.wf,IntKind.min,IntKind.max,IntKind.signed,IntKind.bits];simp;omega
theorem yl:iW wf8 be8 ed:=by
 refine ⟨fun x D C hx=> ?_,fun bs a x b B h=> ?_,fun bs a p B h=> ?_⟩
 .obtain ⟨E,F⟩:=qIO hx;unfold ed;rw [eD.back x D C E];dsimp only;rw [VV oA]
 .unfold ed at h;cases A:bO bs a with
  |error p=>rw [A] at h;cases h
  |ok v=>
   rw [A] at h;dsimp only at h;split at h
   .cases h
   .rename_i ho;cases h;have:=eD.fwd bs a v.1 v.2 B A;exact ⟨LJ ho,this.2⟩
 .unfold ed at h;cases A:bO bs a with
  |error p'=>rw [A] at h;cases h;exact eD.err bs a _ B A
  |ok v=>
   rw [A] at h;dsimp only at h;split at h
   .cases h;exact B
   .cases h
section
variable {α β:Type} {ok1:α->Prop} {ok2:β->Prop} {enc1:α->Le} {enc2:β->Le} {rd1:Le->Nat->Rd α} {rd2:Le->Nat->Rd β}
theorem iW.seq (F:iW ok1 enc1 rd1) (I:iW ok2 enc2 rd2):iW (fun E:α×β=>ok1 E.1/\ok2 E.2) (fun E=>enc1 E.1++enc2 E.2) (fun bs a=>thn (rd1 bs a) fun x a=>thn (rd2 bs a) fun y a=> .ok ((x,y),a)):=by
 refine ⟨fun x C D hx=> ?_,fun bs a x b G h=> ?_,fun bs a p G h=> ?_⟩
 .have H:C++(enc1 x.1++enc2 x.2++D)=C++(enc1 x.1++(enc2 x.2++D)):=(by rw [Vf]);have L:C++(enc1 x.1++(enc2 x.2++D))=(C++enc1 x.1)++(enc2 x.2++D):=skA
  (try dsimp only);rw [H,F.back x.1 C _ hx.1];dsimp only [thn];rw [L,<-laA,I.back x.2 (C++enc1 x.1) D hx.2];dsimp only;simp only [laA,WM]
 . (try dsimp only at h);cases A:rd1 bs a with
  |error p=>rw [A] at h;cases h
  |ok v=>
   rw [A] at h;dsimp only [thn] at h;obtain ⟨M,H,J,t1⟩:=F.fwd bs a v.1 v.2 G A;cases B:rd2 bs v.2 with
   |error p=>rw [B] at h;cases h
   |ok u=>
    rw [B] at h;dsimp only at h;cases h;obtain ⟨N,L,O,t2⟩:=I.fwd bs v.2 u.1 u.2 J B;refine ⟨⟨M,N⟩,by dsimp only;rw [laA];omega,O,?_⟩
    (try dsimp only);rw [laA,List.take_add,t1,XW,<-H,t2]
 . (try dsimp only at h);cases A:rd1 bs a with
  |error p'=>rw [A] at h;cases h;exact F.err bs a _ G A
  |ok v=>
   rw [A] at h;dsimp only [thn] at h;obtain ⟨M,H,J,t1⟩:=F.fwd bs a v.1 v.2 G A;cases B:rd2 bs v.2 with
   |error p'=>rw [B] at h;cases h;exact I.err bs v.2 _ J B
   |ok u=>rw [B] at h;cases h
theorem iW.iso (h:iW ok1 enc1 rd1) (f:α->β) (g:β->α) (N:∀x,g (f x)=x) (H:∀y,f (g y)=y) (E:∀x,ok2 (f x)↔ok1 x) (B:∀x,enc2 (f x)=enc1 x) (C:∀bs a,rd2 bs a=thn (rd1 bs a) fun x a=> .ok (f x,a)):iW ok2 enc2 rd2:=by
 refine ⟨fun y I G F=> ?_,fun bs a y b D h'=> ?_,fun bs a p D h'=> ?_⟩
 .rw [<-H y] at F⊢;rw [C,B,h.back (g y) I G ((E _).1 F)];rfl
 .rw [C] at h';cases A:rd1 bs a with
  |error p=>rw [A] at h';cases h'
  |ok v=>
   rw [A] at h';cases h';obtain ⟨J,L,M,t1⟩:=h.fwd bs a v.1 v.2 D A;exact ⟨(E _).2 J,by rw [B];exact L,M,by rw [B];exact t1⟩
 .rw [C] at h';cases A:rd1 bs a with
  |error p'=>rw [A] at h';cases h';exact h.err bs a _ D A
  |ok v=>rw [A] at h';cases h'
theorem sJ (h:iW ok1 enc1 rd1):∀(l:List α) (A B:Le),(∀x∈l,ok1 x)->bQ (rd1 (A++(l.flatMap enc1++B))) l.length A.length= .ok (l,A.length+(l.flatMap enc1).length)
 | [],A,B,_=>by simp [bQ]
 |x::l,A,B,hx=>by
  have C:A++((x::l).flatMap enc1++B)=A++(enc1 x++(l.flatMap enc1++B)):=skA;have D:A++(enc1 x++(l.flatMap enc1++B))=(A++enc1 x)++(l.flatMap enc1++B):=skA;rw [VC,bQ,C,h.back x A _ (hx x skA)];dsimp only;rw [D,<-laA,sJ h l (A++enc1 x) B (fun y E=>hx y (by simp [E]))];dsimp only;simp [WM]
theorem lW (h:iW ok1 enc1 rd1) (bs:Le):∀(n a:Nat) (l:List α) (b:Nat),a<=bs.length->bQ (rd1 bs) n a= .ok (l,b)->l.length=n/\(∀x∈l,ok1 x)/\b=a+(l.flatMap enc1).length/\b<=bs.length/\(bs.drop a).take (l.flatMap enc1).length=l.flatMap enc1
 |0,a,l,b,C,hr=>by
  simp only [bQ] at hr;cases hr;exact ⟨rfl,skA,skA,C,skA⟩
 |n+1,a,l,b,C,hr=>by
  simp only [bQ] at hr;cases A:rd1 bs a with
  |error p=>rw [A] at hr;cases hr
  |ok v=>
   rw [A] at hr;dsimp only at hr;obtain ⟨D,E,F,t1⟩:=h.fwd bs a v.1 v.2 C A;cases B:bQ (rd1 bs) n v.2 with
   |error p=>rw [B] at hr;cases hr
   |ok u=>
    rw [B] at hr;dsimp only at hr;cases hr;obtain ⟨G,H,J,I,t2⟩:=lW h bs n v.2 u.1 u.2 F B;refine ⟨by simp [G],?_,by rw [Vn,laA];omega,I,?_⟩
    .intro x hx;rcases Vk.1 hx with rfl|hx
     .exact D
     .exact H x hx
    .rw [Vn,laA,List.take_add,t1,XW,<-E,t2]
theorem lX (h:iW ok1 enc1 rd1) (bs:Le):∀(n a p:Nat),a<=bs.length->bQ (rd1 bs) n a= .error p->p<=bs.length
 |0,a,p,ha,hr=>by simp only [bQ] at hr;cases hr
 |n+1,a,p,ha,hr=>by
  simp only [bQ] at hr;cases A:rd1 bs a with
  |error p'=>rw [A] at hr;cases hr;exact h.err bs a _ ha A
  |ok v=>
   rw [A] at hr;dsimp only at hr;obtain ⟨D,E,C,t1⟩:=h.fwd bs a v.1 v.2 ha A;cases B:bQ (rd1 bs) n v.2 with
   |error p'=>rw [B] at hr;cases hr;exact lX h bs n v.2 _ C B
   |ok u=>rw [B] at hr;cases hr
theorem ux {each:Nat} (A:∀x,(enc1 x).length=each):∀l:List α,(l.flatMap enc1).length=l.length*each
 | []=>by simp
 |x::l=>by rw [Vn,laA,A,ux A l,VC,XV,Nat.one_mul,Zx]
theorem sK (h:iW ok1 enc1 rd1) (each:Nat) (S:0<each) (M:∀x,(enc1 x).length=each):
  iW (fun l:List α=>(∀x∈l,ok1 x)/\ff (l.length:Int)) (fun l=>be8 (l.length:Int)++l.flatMap enc1) (fun bs a=>iM bs each (rd1 bs) a):=by
 refine ⟨fun l B D I=> ?_,fun bs a l b E A=> ?_,fun bs a p E A=> ?_⟩
 .have F:B++(be8 (l.length:Int)++l.flatMap enc1++D)=B++(be8 (l.length:Int)++(l.flatMap enc1++D)):=(by rw [Vf]);have J:B++(be8 (l.length:Int)++(l.flatMap enc1++D))=(B++be8 (l.length:Int))++(l.flatMap enc1++D):=skA
  (try dsimp only);unfold iM;rw [F,eD.back _ B _ I.2];dsimp only;have L:=ux M l;have R:(l.length:Int)<=(((B++(be8 (l.length:Int)++(l.flatMap enc1++D))).length:Int)-((B.length+(be8 (l.length:Int)).length:Nat):Int)).tdiv (each:Int):=by
   rw [WT (by simp only [laA];omega)];refine (Int.le_ediv_iff_mul_le oA).2 ?_;simp only [laA,L]
   push_cast;omega
  rw [VV oA,J,<-laA,WN,sJ h l (B++be8 (l.length:Int)) D I.1];simp [WM]
 . (try dsimp only at A);unfold iM at A;cases C:bO bs a with
  |error p=>rw [C] at A;cases A
  |ok v=>
   rw [C] at A;dsimp only at A;split at A
   .cases A
   .rename_i ho;obtain ⟨G,F,H,t1⟩:=eD.fwd bs a v.1 v.2 E C;obtain ⟨T,N,J,O,t2⟩:=lW h bs v.1.toNat v.2 l b H A;have P:v.1=(l.length:Int):=oA;rw [P] at G F t1;refine ⟨⟨N,G⟩,by rw [laA];omega,O,?_⟩
    (try dsimp only);rw [laA,List.take_add,t1,XW,<-F,t2]
 . (try dsimp only at A);unfold iM at A;cases C:bO bs a with
  |error p'=>rw [C] at A;cases A;exact eD.err bs a _ E C
  |ok v=>
   rw [C] at A;dsimp only at A;obtain ⟨G,F,H,t1⟩:=eD.fwd bs a v.1 v.2 E C;split at A
   .cases A;exact E
   .exact lX h bs _ v.2 p H A
end
theorem uW {α β γ:Type} (x:Rd α) (f:α->Nat->Rd β) (g:β->Nat->Rd γ):thn (thn x f) g=thn x fun v a=>thn (f v a) g:=by cases x<;>rfl
theorem Cd {α β:Type} (v:α) (a:Nat) (f:α->Nat->Rd β):thn (.ok (v,a)) f=f v a:=rfl
def okL (l:List Int):Prop:=(∀x∈l,ff x)/\ff (l.length:Int)
theorem Bh:iW okL iy gS:=sK eD 8 oA an
def okR (u:ci):Prop:=ff u.at_/\ff u.by_
theorem Bg:iW okR km fJ:=
 (eD.seq eD).iso (fun x=>(⟨x.1,x.2⟩:ci)) (fun u=>(u.at_,u.by_)) (fun _=>rfl) (fun _=>rfl) (fun _=>Iff.rfl) (fun _=>by simp [km]) (fun bs a=>by simp only [fJ,uW,Cd])
theorem CX (u:ci):(km u).length=16:=by simp [km,an]
def okP (l:List ci):Prop:=(∀x∈l,okR x)/\ff (l.length:Int)
theorem ym:iW okP Ic fj:=sK Bg 16 oA CX
def pi (p:bF):Prop:=wf8 p.op/\ff p.side/\ff p.place/\ff p.target/\okL p.ids/\okP p.pairs
theorem oE:iW pi bZ eX:=
 (yl.seq (eD.seq (eD.seq (eD.seq (Bh.seq ym))))).iso
  (fun x=>(⟨x.1,x.2.1,x.2.2.1,x.2.2.2.1,x.2.2.2.2.1,x.2.2.2.2.2⟩:bF)) (fun u=>(u.op,u.side,u.place,u.target,u.ids,u.pairs)) (fun _=>rfl) (fun _=>rfl) (fun _=>Iff.rfl) (fun _=>by simp [bZ]) (fun bs a=>by simp only [eX,uW,Cd])
section
variable {α:Type} {ok:α->Prop} {enc:α->Le} {rd:Le->Nat->Rd α}
theorem iW.whole_more (h:iW ok enc rd) {x:α} (hx:ok x) (more:Le):gC rd (enc x++more)=if more=[] then .ok x else .error (enc x).length:=by
 unfold gC;have:=h.back x [] more hx;simp only [Wl,Xz,VN] at this;rw [this];dsimp only;rw [laA];cases more with
 |nil=>simp
 |cons y l=>simp
theorem iW.whole_back (h:iW ok enc rd) {x:α} (hx:ok x):gC rd (enc x)= .ok x:=by
 have:=h.whole_more hx [];rwa [WO,Vz rfl] at this
theorem iW.whole_fwd (h:iW ok enc rd) {x:α} {bs:Le} (A:gC rd bs= .ok x):ok x/\enc x=bs:=by
 unfold gC at A;cases B:rd bs 0 with
 |error p=>rw [B] at A;cases A
 |ok v=>
  rw [B] at A;dsimp only at A;split at A
  .cases A
  .rename_i hl;cases A;obtain ⟨o,e,l,t⟩:=h.fwd bs 0 v.1 v.2 (Vt _) B;refine ⟨o,?_⟩;rw [List.drop_zero] at t;rw [<-t,VZ oA]
end
theorem gZ {n:Nat} (h:n<=1000000000000000):ff (n:Int):=by
 simp only [ff,Lit.wf,IntKind.min,IntKind.max,IntKind.signed,IntKind.bits];simp;omega
theorem mC.okL {w:As} {s:Sl} {l:List Int} (h:mC w s l):okL l:=⟨h.2.2.2.2.2,gZ (by have A:=h.2.1;have B:=h.2.2.2.2.1;omega)⟩
theorem jW.okP {w:As} {s:Sl} {l:List ci} (h:jW w s l):okP l:=⟨h.2.2.2.2.2,gZ (by have A:=h.2.1;have B:=h.2.2.2.2.1;omega)⟩
theorem fb.ok {w:As} {p:bF} {h:dy} (a:fb w p h):pi p:=⟨a.op,a.side,a.place,a.target,a.ids.okL,a.pairs.okP⟩
theorem pZ (s:ByteArray):dK (kL s)=s:=by
 obtain ⟨⟨l⟩⟩:=s;rfl
structure IJ {α:Type} (ok:α->Prop) (enc:α->Le) (rd:CS->α×CS):Prop where
 back:∀x r bad,ok x->rd ⟨enc x++r,bad⟩=(x,⟨r,bad⟩)
 fwd:∀s,(rd s).2.bad=false->s.bad=false/\ok (rd s).1/\s.b=enc (rd s).1++(rd s).2.b
theorem tz {n:Int} {s:CS} (h:¬(n<0\/(s.b.length:Int)<n)):dW n s=(s.b.take n.toNat,⟨s.b.drop n.toNat,s.bad⟩):=VV h
theorem uZ {n:Int} {s:CS} (h:(dW n s).2.bad=false):s.bad=false/\0<=n/\((dW n s).1.length:Int)=n/\s.b=(dW n s).1++(dW n s).2.b:=by
 by_cases A:n<0\/(s.b.length:Int)<n
 .unfold dW at h;rw [Vz A] at h;cases h
 .rw [tz A] at h⊢;refine ⟨h,oA,?_,(WP _ _).symm⟩;dsimp only;rw [ltA];omega
theorem gH:IJ ff be8 bp:=by
 refine ⟨fun x r bad hx=> ?_,fun s h=> ?_⟩
 .have A:=an x;unfold bp;rw [tz (by simp only [laA];omega)];dsimp only;rw [show (8:Int).toNat=8 from rfl,Xh oA,VZ oA,zT,zl,qA x hx,XO (by rw [KL];simp),Xp (by rw [KL];simp)];rfl
 .have h1:(dW 8 s).2.bad=false:=h;obtain ⟨B,D,E,C⟩:=uZ h1;refine ⟨B,jC s,?_⟩;have A:(dW 8 s).1.length=8:=oA;have e:be8 (bp s).1=(dW 8 s).1:=by
   show be8 (rdB (dW 8 s).1).toInt=_;rw [zT,BitVec.ofInt_toInt,zU _ A]
  rw [e];exact C
theorem ti {n:Nat} (h:n<=140737488351232):ff (n:Int):=gZ oA
def Be (l:Le):Le:=be8 (l.length:Int)++l
theorem rf:IJ (fun l=>ff ((l.length:Nat):Int)) Be gM:=by
 refine ⟨fun l r bad B=> ?_,fun s h=> ?_⟩
 .unfold gM Be;rw [Vf,gH.back _ _ _ B];dsimp only;rw [tz (by simp only [laA];omega)];dsimp only;rw [WN,Yq,Yh]
 .have h1:(dW (bp s).1 (bp s).2).2.bad=false:=h;obtain ⟨C,G,A,H⟩:=uZ h1;obtain ⟨D,E,F⟩:=gH.fwd s C;refine ⟨D,?_,?_⟩
  .show ff (((dW (bp s).1 (bp s).2).1.length:Nat):Int);rw [A];exact E
  .show s.b=Be (dW (bp s).1 (bp s).2).1++_;unfold Be;rw [A,Vf,F];congr 1
theorem vI:∀(l:List Int) (r:Le) (bad:Bool),(∀x∈l,ff x)->fQ l.length ⟨l.flatMap be8++r,bad⟩=(l,⟨r,bad⟩)
 | [],r,bad,_=>rfl
 |x::l,r,bad,h=>by
  rw [VC,fQ,Vn,Vf,gH.back x _ bad (h x skA)];dsimp only;rw [vI l r bad fun y A=>h y (by simp [A])]
theorem zx:∀(k:Nat) (s:CS),(fQ k s).2.bad=false->s.bad=false/\(fQ k s).1.length=k/\(∀x∈(fQ k s).1,ff x)/\s.b=(fQ k s).1.flatMap be8++(fQ k s).2.b
 |0,s,h=>⟨h,rfl,by simp [fQ],by simp [fQ]⟩
 |k+1,s,h=>by
  obtain ⟨A,B,C,D⟩:=zx k (bp s).2 h;obtain ⟨E,F,G⟩:=gH.fwd s A;refine ⟨E,by simp [fQ,B],?_,?_⟩
  .intro x hx;rcases Vk.1 hx with rfl|hx
   .exact F
   .exact C x hx
  .rw [G,D];simp [fQ]
theorem rg:IJ okL iy gP:=by
 refine ⟨fun l r bad A=> ?_,fun s h=> ?_⟩
 .unfold gP iy;rw [Vf,gH.back _ _ _ A.2];dsimp only;have B:=ux an l;rw [VV (by simp only [laA,B];omega),WN,vI l r bad A.1]
 .unfold gP at h⊢;split at h
  .cases h
  .rename_i hb;rw [VV hb];obtain ⟨C,D,E,F⟩:=zx _ _ h;obtain ⟨G,H,I⟩:=gH.fwd s C;have e:(((fQ (bp s).1.toNat (bp s).2).1.length:Nat):Int)=(bp s).1:=(by rw [D];omega);refine ⟨G,⟨E,by rw [e];exact H⟩,?_⟩;unfold iy;rw [e,Vf,<-F];exact I
def sqC {α β:Type} (r1:CS->α×CS) (r2:CS->β×CS) (s:CS):(α×β)×CS:=(((r1 s).1,(r2 (r1 s).2).1),(r2 (r1 s).2).2)
section
variable {α β:Type} {ok1:α->Prop} {ok2:β->Prop} {enc1:α->Le} {enc2:β->Le} {rd1:CS->α×CS} {rd2:CS->β×CS}
theorem IJ.seq (A:IJ ok1 enc1 rd1) (B:IJ ok2 enc2 rd2):IJ (fun x:α×β=>ok1 x.1/\ok2 x.2) (fun x=>enc1 x.1++enc2 x.2) (sqC rd1 rd2):=by
 refine ⟨fun x r bad hx=> ?_,fun s h=> ?_⟩
 .unfold sqC;rw [Vf,A.back _ _ _ hx.1];dsimp only;rw [B.back _ _ _ hx.2]
 .obtain ⟨C,D,E⟩:=B.fwd _ h;obtain ⟨F,b2,G⟩:=A.fwd _ C;exact ⟨F,⟨b2,D⟩,by rw [G,E];simp [sqC]⟩
end
def emN:bB:=ByteArray.empty
def kE:ao:=⟨0,0,0,emN,emN,emN,[],[],[],dR⟩
def lJ (y:UInt8):Int:=IntKind.i8.wrap (U8 y)
abbrev Lw:=Int×Int×Le×Le×Le×List Int×List Int×List Int
def zR (s:CS):Lw×CS:=sqC bp (sqC bp (sqC gM (sqC gM (sqC gM (sqC gP (sqC gP gP)))))) s
def uk (x:Lw):ao:=⟨1,x.1,x.2.1,dK x.2.2.1,dK x.2.2.2.1,dK x.2.2.2.2.1,x.2.2.2.2.2.1,x.2.2.2.2.2.2.1,x.2.2.2.2.2.2.2,dR⟩
def mk2 (x:Lw×CS):ao×CS:=(uk x.1,x.2)
theorem JH (x:Lw×CS):(mk2 x).2=x.2:=rfl
abbrev iB (s:CS):ao×CS:=mk2 (zR s)
def It (s:CS):ao×CS:=(⟨2,(bp s).1,0,emN,emN,emN,[],[],[],(ec (bp s).2.b).1⟩,⟨[],(bp s).2.bad||decide ((ec (bp s).2.b).2.2≠0)⟩)
def tT (k:Int) (s:CS):ao×CS:=if k=1 then iB s else if k=2 then It s else (⟨k,(bp s).1,0,emN,emN,emN,[],[],[],dR⟩,(bp s).2)
def wm (x:ao×CS):ao×Int:=if x.2.bad=true\/0<x.2.b.length\/iE x.1=false then (kE,2) else (x.1,0)
def gB:Le->ao×Int
 | []=>(kE,2)
 |y::r=>wm (tT (lJ y) ⟨r,false⟩)
structure OkD (p:ao):Prop where
 kind:wf8 p.kind
 game:ff p.game
 table:ff p.table
 fmt:rG p.fmt
 n0:rG p.n0
 n1:rG p.n1
 d0:okL p.d0
 d1:okL p.d1
 dr:okL p.dr
 act:pi p.act
theorem dp.okD {w:As} {p:ao} {h:aY} (a:dp w p h):OkD p:=⟨a.kind,a.game,a.table,a.fmt,a.n0,a.n1,a.d0.okL,a.d1.okL,a.dr.okL,a.act.ok⟩
theorem Jg {s:bB} (h:s.size=0):s=emN:=by
 obtain ⟨⟨l⟩⟩:=s;have:l=[]:=VX h;subst this;rfl
theorem AP {p:ao} (h:iE p=true) (D:p.kind=1):p.act=dR:=by
 unfold iE nt at h;simp [D] at h;have A:=h.2;unfold Ga FR at A;simp only [Vh,WW] at A;obtain ⟨-,-,-,-,-,-,a,b,c,d,e⟩:=A;obtain ⟨k,g,t,f,n0,n1,d0,d1,dr,⟨o,s,G,H,B,C⟩⟩:=p;dsimp only at a b c d e⊢;have E:B=[]:=VX oA;have F:C=[]:=VX oA;subst a b c d E F;rfl
theorem FX {p:ao} (h:iE p=true) (A:p.kind=2):p=⟨2,p.game,0,emN,emN,emN,[],[],[],p.act⟩:=by
 unfold iE nt at h;simp [A] at h;have B:=h.2;unfold EU at B;simp only [Vh,WW] at B;obtain ⟨-,a,b,⟨c,d⟩,e⟩:=B;obtain ⟨k,g,t,f,n0,n1,d0,d1,dr,act⟩:=p;dsimp only at a b c d e A⊢;have C:d0=[]:=VX oA;have D:d1=[]:=VX oA;have E:dr=[]:=VX oA;rw [Jg b,Jg c,Jg d,a,A,C,D,E]
theorem sM:IJ (fun x:Lw=>ff x.1/\ff x.2.1/\ff ((x.2.2.1.length:Nat):Int)/\ff ((x.2.2.2.1.length:Nat):Int)/\ff ((x.2.2.2.2.1.length:Nat):Int)/\okL x.2.2.2.2.2.1/\okL x.2.2.2.2.2.2.1/\okL x.2.2.2.2.2.2.2)
  (fun x=>be8 x.1++(be8 x.2.1++(Be x.2.2.1++(Be x.2.2.2.1++(Be x.2.2.2.2.1++(iy x.2.2.2.2.2.1++(iy x.2.2.2.2.2.2.1++iy x.2.2.2.2.2.2.2)))))))
  zR:=
 gH.seq (gH.seq (rf.seq (rf.seq (rf.seq (rg.seq (rg.seq rg))))))
theorem Bm (p:ao) (h:OkD p) (B:p.kind=1) (C:p.act=dR):iB ⟨be8 p.game++(be8 p.table++(eP p.fmt++(eP p.n0++(eP p.n1++(iy p.d0++(iy p.d1++iy p.dr)))))),false⟩=(p,⟨[],false⟩):=by
 have A:=sM.back (p.game,p.table,kL p.fmt,kL p.n0,kL p.n1,p.d0,p.d1,p.dr) [] false ⟨h.game,h.table,ti h.fmt,ti h.n0,ti h.n1,h.d0,h.d1,h.dr⟩;rw [WO] at A;have e:∀s:bB,eP s=Be (kL s):=fun s=>rfl;rw [e,e,e];unfold iB;rw [A];unfold mk2 uk;dsimp only;rw [pZ,pZ,pZ,<-C,<-B]
theorem Ev (x:Lw×CS) (l:Le) (h:l=(be8 x.1.1++(be8 x.1.2.1++(Be x.1.2.2.1++(Be x.1.2.2.2.1++(Be x.1.2.2.2.2.1++(iy x.1.2.2.2.2.2.1++(iy x.1.2.2.2.2.2.2.1++iy x.1.2.2.2.2.2.2.2)))))))++x.2.b):
  l=be8 (mk2 x).1.game++(be8 (mk2 x).1.table++(eP (mk2 x).1.fmt++(eP (mk2 x).1.n0++(eP (mk2 x).1.n1++(iy (mk2 x).1.d0++(iy (mk2 x).1.d1++iy (mk2 x).1.dr))))))++(mk2 x).2.b:=by
 have e:∀l:Le,eP (dK l)=Be l:=fun l=>(by unfold eP Be;rw [nD];rfl);obtain ⟨⟨g,t,f,a,b,d0,d1,dr⟩,A⟩:=x;unfold mk2 uk;dsimp only at h⊢;rw [e,e,e];exact h
theorem Ew (s:CS) (h:(iB s).2.bad=false):s.b=be8 (iB s).1.game++(be8 (iB s).1.table++(eP (iB s).1.fmt++(eP (iB s).1.n0++(eP (iB s).1.n1++(iy (iB s).1.d0++(iy (iB s).1.d1++iy (iB s).1.dr))))))++(iB s).2.b:=
 Ev (zR s) s.b (sM.fwd s (by rw [JH] at h;exact h)).2.2
theorem CL (p:ao) (h:OkD p) (B:iE p=true):gB (bj p)=(p,0):=by
 have C:∀r,tT p.kind r=(p,⟨[],false⟩)->wm (tT p.kind r)=(p,0):=fun r e=>by
  rw [e];unfold wm;rw [VV (by simp [B])]
 rcases jQ B with A|A
 .have e:bj p=1::(be8 p.game++(be8 p.table++(eP p.fmt++(eP p.n0++(eP p.n1++(iy p.d0++(iy p.d1++iy p.dr))))))):=by
   unfold bj;rw [VV (by rw [A];decide)];simp
  rw [e];show wm (tT (lJ 1) _)=_;rw [show lJ 1=p.kind from A.symm];refine C _ ?_;unfold tT;rw [Vz A];exact Bm p h A (AP B A)
 .have e:bj p=2::(be8 p.game++bZ p.act):=by
   unfold bj;rw [Vz A];simp
  rw [e];show wm (tT (lJ 2) _)=_;rw [show lJ 2=p.kind from A.symm];refine C _ ?_;unfold tT;rw [VV (by rw [A];decide),Vz A];unfold It;rw [gH.back _ _ _ h.game];dsimp only;have D:ec (bZ p.act)=(p.act,0,0):=(by unfold ec;rw [oE.whole_back h.act]);rw [D];conv=>rhs;rw [FX B A]
  rfl
theorem Gh {y:UInt8} (h:lJ y=1):y=1:=by
 have A:∀n:Fin 256,IntKind.i8.wrap ((n.val:Nat):Int)=1->n.val=1:=(by decide+kernel);exact Wt.1 (A ⟨y.toNat,y.toNat_lt⟩ h)
theorem Gg {y:UInt8} (h:lJ y=2):y=2:=by
 have A:∀n:Fin 256,IntKind.i8.wrap ((n.val:Nat):Int)=2->n.val=2:=(by decide+kernel);exact Wt.1 (A ⟨y.toNat,y.toNat_lt⟩ h)
theorem FC {b:Le} {p:ao} (h:gB b=(p,0)):iE p=true/\bj p=b:=by
 match b,h with
 | [],h=>cases h
 |y::r,h=>
  have h:wm (tT (lJ y) ⟨r,false⟩)=(p,0):=h;unfold wm at h;split at h
  .cases h
  .rename_i hb;simp only [not_or,Bool.not_eq_true,Nat.not_lt,Nat.le_zero,Bool.not_eq_false] at hb;obtain ⟨A,b2,E⟩:=hb;simp only [Prod.mk.injEq,ZA] at h;subst h;have C:=VX b2;refine ⟨E,?_⟩;have F:(tT (lJ y) ⟨r,false⟩).1.kind=lJ y:=by
    unfold tT;split
    .rename_i e;rw [e];rfl
    .split
     .rename_i e;rw [e];rfl
     .rfl
   rcases jQ E with e|e
   .have e1:=Gh (F▸e);subst e1;have D:tT (lJ 1) ⟨r,false⟩=iB ⟨r,false⟩:=rfl;rw [D] at A C e⊢;have:=Ew _ A;rw [C,WO] at this;dsimp only at this;unfold bj;rw [VV (by rw [e];decide)];conv=>rhs;rw [this]
    simp
   .have e1:=Gg (F▸e);subst e1;have D:tT (lJ 2) ⟨r,false⟩=It ⟨r,false⟩:=rfl;rw [D] at A C e⊢;unfold It at A;dsimp only at A;simp only [ZV,YQ,Decidable.not_not] at A;obtain ⟨I,c2⟩:=A;obtain ⟨d1,d2,d3⟩:=gH.fwd _ I;have G:∃q,gC eX (bp ⟨r,false⟩).2.b= .ok q:=by
     unfold ec at c2;cases B:gC eX (bp ⟨r,false⟩).2.b with
     |error k=>rw [B] at c2;cases c2
     |ok q=>exact ⟨q,rfl⟩
    obtain ⟨q,B⟩:=G;have H:(ec (bp ⟨r,false⟩).2.b).1=q:=(by unfold ec;rw [B]);obtain ⟨-,J⟩:=oE.whole_fwd B;unfold bj;rw [Vz e];unfold It;dsimp only;rw [H,J];dsimp only at d3;conv=>rhs;rw [d3]
    simp
end
section
open Go.RowKit
theorem BQ (l:List Int):∀u∈l.map (Value.int .i64),u.oneCell'=true:=fun u A=>by
 obtain ⟨x,_,rfl⟩:=VH.1 A;rfl
theorem Ac (l:List ci):∀u∈l.flatMap ci.cells,u.oneCell'=true:=fun u A=>by
 obtain ⟨x,_,hx⟩:=List.mem_flatMap.1 A;unfold ci.cells at hx;simp only [Vk,Yu,Zg] at hx;rcases hx with rfl|rfl<;>rfl
theorem kg (a:Lt) (n c:Nat) (l:List Int) (w:As) (N:mC w ⟨a,n,c⟩ l):
  Calls prog 119 #[.slice a n c] w fun e w'=>∃a' c',e= .returned (.slice a' n c')/\Own w' w.heap.size 3 1 a' n c' (l.map (Value.int .i64))/\Below w.heap.size w w':=by
 obtain ⟨B,A,O,I,J,S⟩:=N;dsimp only at B A O I J;have F:=Hd A;have E:=(show (l.map (Value.int .i64)).length=l.length*1 by rw [lmA,Vr]);clear A;have q:∀(w:As) (a:Lt) (n c C c':Nat),(binOp .eql 34 (.slice a n c) (.slice none C c')).run prog w= .ok (.bool a.isNone) w:=fun w a n c C c'=>YA w _ _ a n c C c' underlying34;cases a with
 |none=>
  have L:l=[]:=by
   refine VX (Xn fun h=> ?_);obtain ⟨_,_,e,_⟩:=B 0 (by rw [E];omega);cases e
  subst L;have G:n=0:=F.out.symm;go_enter func119,ntmps119;go_wp2_with fail;go_ret;exact ⟨none,0,by rw [G];rfl,by rw [G];exact Own.nil _ _ _ _,VW _ _⟩
 |some x=>
  go_enter func119,ntmps119;have D:Own (w.alloc (.cells #[] 3)) w.heap.size 3 1 (some ⟨w.heap.size,0,none⟩) 0 0 []:=by
   refine ⟨skA,.inr ⟨w.heap.size,0,#[],rfl,VU _,ZO w _,VU _,mxA,skA,skA⟩⟩
  go_wp2_with (at_builtin;refine al rfl _ _ 34 rfl sC rfl D rfl (B.alloc _) (by rw [E,F.out]) (BQ _) mxA oA skA ?_);intro P R w1 H M;go_wp2_with fail;go_ret;refine ⟨P,R,?_,?_,D.grown ((VW _ _).alloc (VU _) _) (VU _) M skA⟩
  .first|rfl|simp
  .simpa using H
theorem uU (a:Lt) (n c:Nat) (l:List ci) (w:As) (N:jW w ⟨a,n,c⟩ l):
  Calls prog 120 #[.slice a n c] w fun e w'=>∃a' c',e= .returned (.slice a' n c')/\Own w' w.heap.size 157 2 a' n c' (l.flatMap ci.cells)/\Below w.heap.size w w':=by
 obtain ⟨B,A,O,I,J,S⟩:=N;dsimp only at B A O I J;have F:=Hd A;have E:=(mS l);clear A;have q:∀(w:As) (a:Lt) (n c C c':Nat),(binOp .eql 36 (.slice a n c) (.slice none C c')).run prog w= .ok (.bool a.isNone) w:=fun w a n c C c'=>YA w _ _ a n c C c' underlying36;cases a with
 |none=>
  have L:l=[]:=by
   refine VX (Xn fun h=> ?_);obtain ⟨_,_,e,_⟩:=B 0 (by rw [E];omega);cases e
  subst L;have G:n=0:=F.out.symm;go_enter func120,ntmps120;go_wp2_with fail;go_ret;exact ⟨none,0,by rw [G];rfl,by rw [G];exact Own.nil _ _ _ _,VW _ _⟩
 |some x=>
  go_enter func120,ntmps120;have D:Own (w.alloc (.cells #[] 157)) w.heap.size 157 2 (some ⟨w.heap.size,0,none⟩) 0 0 []:=by
   refine ⟨skA,.inr ⟨w.heap.size,0,#[],rfl,VU _,ZO w _,VU _,mxA,skA,skA⟩⟩
  go_wp2_with (at_builtin;refine al rfl _ _ 36 rfl xM rfl D rfl (B.alloc _) (by rw [E,F.out]) (Ac _) mxA oA skA ?_);intro P R w1 H M;go_wp2_with fail;go_ret;refine ⟨P,R,?_,?_,D.grown ((VW _ _).alloc (VU _) _) (VU _) M skA⟩
  .first|rfl|simp
  .simpa using H
theorem yK:lY prog 157 2:=⟨⟨_,underlying157,rfl⟩,krA⟩
def kf (x:ci):Value:= .agg #[.int .i64 x.at_,.int .i64 x.by_]
theorem vR (x y:ci) (w:As):(binOp .neq 157 (kf x) (kf y)).run prog w= .ok (.bool (!decide (x=y))) w:=by
 have C:Tryz.prog.eqGuardType Tryz.prog.depth 157=false:=(by kernel_rfl);have D:Tryz.prog.stoodInHeld 157=false:=(by kernel_rfl);obtain ⟨a,b⟩:=x;obtain ⟨c,d⟩:=y;unfold kf;go_simp;by_cases A:a=c<;>by_cases B:b=d<;>simp [A,B]
def cM:AS:= #[.int .i8 0,.int .i64 0,.int .i64 0,.string ⟨#[]⟩,.string ⟨#[]⟩,.string ⟨#[]⟩,.slice none 0 0,.slice none 0 0,.slice none 0 0,.int .i8 0,.int .i64 0,.int .i64 0,.int .i64 0,.slice none 0 0,.slice none 0 0]
theorem ax.cell1 {w:As} {B g i:Nat} {s:Sl} {l:List Int} {cs:AS} {t:TypeId} (h:ax w B s l) (C:Blk w g cs t) (A:t≠3) (v:Value):ax (w.setCell ⟨g,i,none⟩ v) B s l:=
 ⟨h.1.setCell_apart C A i v,(h.1.setCell_apart C A i v).row,h.2.2⟩
theorem ax.row1 {w:As} {B g:Nat} {s:Sl} {l:List Int} {cs:AS} {t:TypeId} (h:ax w B s l) (D:Blk w g cs t) (C:t≠3) (A:AS):ax (w.setRow g A) B s l:=
 ⟨h.1.setRow_apart D C A,(h.1.setRow_apart D C A).row,h.2.2⟩
theorem aQ.cell1 {w:As} {B g i:Nat} {s:Sl} {l:List ci} {cs:AS} {t:TypeId} (h:aQ w B s l) (C:Blk w g cs t) (A:t≠157) (v:Value):aQ (w.setCell ⟨g,i,none⟩ v) B s l:=
 ⟨h.1.setCell_apart C A i v,(h.1.setCell_apart C A i v).row,h.2.2⟩
theorem aQ.row1 {w:As} {B g:Nat} {s:Sl} {l:List ci} {cs:AS} {t:TypeId} (h:aQ w B s l) (D:Blk w g cs t) (C:t≠157) (A:AS):aQ (w.setRow g A) B s l:=
 ⟨h.1.setRow_apart D C A,(h.1.setRow_apart D C A).row,h.2.2⟩
theorem ax.ofClone {w w0:As} {B:Nat} {a':Lt} {c':Nat} {A:Sl} {l:List Int} (h:Own w B 3 1 a' A.n c' (l.map (Value.int .i64))) (C:mC w0 A l):ax w B ⟨a',A.n,c'⟩ l:=ax.mk' (s:=⟨a',A.n,c'⟩) h C rfl
def CopR (w:As) (X:Nat) (p:ao) (h:aY) (f:Nat) (i:Value) (wr:As):Prop:=
 ∃(k:Nat) (s0 s1:Sl),k+f=2/\i= .int .i64 (k:Int)/\Blk wr X (af p ⟨s0,s1,h.dr,h.act⟩).toArray 40/\Blk wr (X+1) cM 40/\(k=0->s0=h.d0)/\(k<2->s1=h.d1)/\(0<k->ax wr w.heap.size s0 p.d0)/\(1<k->ax wr w.heap.size s1 p.d1)/\Below w.heap.size w wr
theorem mi (p:ao) (h:aY) (w:As) (A:dp w p h):
  Calls prog 71 #[dG p h] w fun e w'=>∃h',e= .returned (dG p h')/\be w' w.heap.size p h'/\Below w.heap.size w w':=by
 rw [aD];go_enter func71,ntmps71;go_upto_region 1 with fail;obtain ⟨X,V⟩:=At w.heap.size;rw [<-V];refine ag (fun W=>CopR w X p h 2 (.int .i64 0) W) ⟨0,h.d0,h.d1,rfl,rfl,by subst V;exact Blk.new2 w _ _ _,by subst V;exact Blk.new2' w _ _ _,fun _=>rfl,fun _=>rfl,fun h=>by omega,fun h=>by omega,by subst V;exact cL⟩ ?_;intro W1 A4;have B2:w.heap.size<=X:=VM V.symm;clear V;go_wp2_with fail;go_loopg [3,4,5,6,7,8,9,10,11,12,13,14,15] 2 (fun f _ i _ _ _ _ _ _ _ _ _ _ _ wr=>CopR w X p h f i wr)
 case atStart=>exact A4
 case round=>
  clear A4;obtain ⟨k,D,E,hf,rfl,S,A1,r,P,N,Z,J⟩:=hrel;have HF:=Hd hf;clear hf;by_cases hk:k<2
  .have h3:k=0\/k=1:=oA;have m:=J.size;have l6:wr.cell? ⟨X,6,none⟩=some (.slice D.a D.n D.c):=S.cell rfl;have l7:wr.cell? ⟨X,7,none⟩=some (.slice E.a E.n E.c):=S.cell rfl;rcases h3 with rfl|rfl
   .obtain rfl:=r rfl;obtain rfl:=P oA;have L:=kg h.d0.a h.d0.n h.d0.c p.d0 wr (A.d0.old J);clear r P N Z;go_wp2_with fail;refine L.mono ?_;clear L;rintro e d ⟨a',c',rfl,g,C⟩;have B:=S.old C;have Y:=A1.old C;have A5:=B.free;have B3:d.cell? ⟨X,6,none⟩=some (.slice h.d0.a h.d0.n h.d0.c):=B.cell rfl;go_wp2_with fail;go_roundg 1
    case measure=>have:=HF.out;omega
    case rel=>
     refine ⟨1,⟨a',h.d0.n,c'⟩,h.d1,oA,gnA,B.set 6 _,Y.other _ _ skA,fun h=>by omega,fun _=>rfl,fun _=> ?_,fun h=>by omega,(aa J C).setCell (by show w.heap.size<=X;omega) _⟩;exact ((ax.ofClone g A.d0).lower m).cell1 B dcA _
   .obtain rfl:=P oA;have N:=N oA;have L:=kg h.d1.a h.d1.n h.d1.c p.d1 wr (A.d1.old J);clear r P Z;go_wp2_with fail;refine L.mono ?_;clear L;rintro e d ⟨a',c',rfl,g,C⟩;have B:=S.old C;have Y:=A1.old C;have A5:=B.free;have A0:=N.old C;have B4:d.cell? ⟨X,7,none⟩=some (.slice h.d1.a h.d1.n h.d1.c):=B.cell rfl;go_wp2_with fail;go_roundg 0
    case measure=>have:=HF.out;omega
    case rel=>
     refine ⟨2,D,⟨a',h.d1.n,c'⟩,oA,gnA,B.set 7 _,Y.other _ _ skA,fun h=>by omega,fun h=>by omega,fun _=>A0.cell1 B dcA _,fun _=> ?_,(aa J C).setCell (by show w.heap.size<=X;omega) _⟩;exact ((ax.ofClone g A.d1).lower m).cell1 B dcA _
  .obtain rfl:k=2:=(by have:=HF.out;omega);have N:=N oA;have Z:=Z oA;have m:=J.size;have l8:wr.cell? ⟨X,8,none⟩=some (.slice h.dr.a h.dr.n h.dr.c):=S.cell rfl;have L:=kg h.dr.a h.dr.n h.dr.c p.dr wr (A.dr.old J);clear r P;go_wp2_with fail;refine L.mono ?_;clear L;rintro e d ⟨a',c',rfl,g,C⟩;have B:=S.old C;have Y:=A1.old C;have A5:=B.free;have A0:=N.old C;have A7:=Z.old C;have B5:d.cell? ⟨X,8,none⟩=some (.slice h.dr.a h.dr.n h.dr.c):=B.cell rfl;go_upto_region 7 with fail;refine ag (fun W=>Blk W X (af p ⟨D,E,⟨a',h.dr.n,c'⟩,h.act⟩).toArray 40/\Blk W (X+1) cM 40/\ax W w.heap.size D p.d0/\ax W w.heap.size E p.d1/\ax W w.heap.size ⟨a',h.dr.n,c'⟩ p.dr/\Below w.heap.size w W)
    ⟨B.set 8 _,Y.other _ _ skA,A0.cell1 B dcA _,A7.cell1 B dcA _,((ax.ofClone g A.dr).lower m).cell1 B dcA _,(aa J C).setCell (by show w.heap.size<=X;omega) _⟩ ?_
   rintro W2 ⟨t,kR,k0,k1,k2,y⟩;have B6:∀W,au (fun x=>x=X) W2.drew W->W.cell? ⟨X,13,none⟩=some (.slice h.act.ids.a h.act.ids.n h.act.ids.c):=fun W hW=>by
    rw [VE (a:=⟨X,13,none⟩) (hW.2 X rfl)];exact t.cell rfl
   have B7:∀W,au (fun x=>x=X) W2.drew W->W.cell? ⟨X,14,none⟩=some (.slice h.act.pairs.a h.act.pairs.n h.act.pairs.c):=fun W hW=>by
    rw [VE (a:=⟨X,14,none⟩) (hW.2 X rfl)];exact t.cell rfl
   refine ah true (au (fun x=>x=X)) (au.refl _) (fun _ _ _ P h2=>au.trans P h2) (.step 0 (.step 1 (.step 2 (.step 4 (.step 5 (.step 6 (.step 3 (.step 8 (.step 9 (.step 7 (.step 10 (.step 11 (.step 12 (.step 13 .done)))))))))))))) krA krA cdA ?_
   repeat refine txA ?_
   refine am rfl rfl rfA (fun K R=> ?_);go_wp2_with fail;refine (kg _ _ _ p.act.ids _ ((A.act.ids.old y).old (VW _ _).drew)).mono ?_;rintro e w3 ⟨F,G,rfl,A8,O⟩;have A2:=t.drew.old O;go_wp2_with fail;refine R _ _ ⟨O.size,fun x hx=>by subst hx;exact A2.trans t.symm⟩ ?_;clear R K
   repeat refine txA ?_
   refine am rfl rfl rfA (fun K R=> ?_);go_wp2_with fail;refine (uU _ _ _ p.act.pairs _ (((A.act.pairs.old y).old (VW _ _).drew).old O)).mono ?_;rintro e M ⟨H,I,rfl,A9,T⟩;have U:=A2.old T;go_wp2_with fail;refine R _ _ ⟨T.size,fun x hx=>by subst hx;exact U.trans A2.symm⟩ ?_;clear R K
   repeat refine txA ?_
   have f4:=U.free;have B9:M.cell? ⟨X,13,none⟩=some (.slice h.act.ids.a h.act.ids.n h.act.ids.c):=U.cell rfl;refine az rfl rfl rfA (fun K R=> ?_);go_wp2_with fail
   repeat refine txA ?_
   have b:=U.set 13 (.slice F h.act.ids.n G);have f5:=b.free;have CK:(M.setCell ⟨X,13,none⟩ (.slice F h.act.ids.n G)).cell? ⟨X,14,none⟩=some (.slice h.act.pairs.a h.act.pairs.n h.act.pairs.c):=b.cell rfl;refine az rfl rfl rfA (fun K R=> ?_);go_wp2_with fail;refine aq ?_;have BY:=b.set 14 (.slice H h.act.pairs.n I);have o:Blk ((M.setCell ⟨X,13,none⟩ (.slice F h.act.ids.n G)).setCell ⟨X,14,none⟩ (.slice H h.act.pairs.n I)) (X+1) cM 40:=(((kR.drew.old O).old T).other _ _ skA).other _ _ skA;go_wp2_with (first|refine ap rfl 40 aZ (.tmp 1) rfl rfl BY rfl ?_|refine ae rfl 40 aZ (.tmp 2) _ rfl rfl rfl o rfl rfl rfl ?_);have has:∀(ad:Addr) (w:As),(asAddr (.pointer (some ad))).run prog w= .ok ad w:=fun _ _=>rfl;have B0:=o.setRow (af p ⟨D,E,⟨a',h.dr.n,c'⟩,⟨⟨F,h.act.ids.n,G⟩,⟨H,h.act.pairs.n,I⟩⟩⟩).toArray;have cx:(loadVar 40 ⟨X+1,0,none⟩).run prog _= .ok (dG p ⟨D,E,⟨a',h.dr.n,c'⟩,⟨⟨F,h.act.ids.n,G⟩,⟨H,h.act.pairs.n,I⟩⟩⟩) _:=dv aZ (cs:=af p ⟨D,E,⟨a',h.dr.n,c'⟩,⟨⟨F,h.act.ids.n,G⟩,⟨H,h.act.pairs.n,I⟩⟩⟩) (fun j hj=>by rw [VN,B0.rule j];simp [hj]) rfl;refine YO (v:=dG p ⟨D,E,⟨a',h.dr.n,c'⟩,⟨⟨F,h.act.ids.n,G⟩,⟨H,h.act.pairs.n,I⟩⟩⟩) ?_ rfl ⟨_,rfl,?_,?_⟩
   .simp [results,Tryz.results71,has];exact cx
   .have two:∀{s:Sl} {l:List Int},ax M w.heap.size s l->ax (((M.setCell ⟨X,13,none⟩ (.slice F h.act.ids.n G)).setCell ⟨X,14,none⟩ (.slice H h.act.pairs.n I)).setRow (X+1) (af p ⟨D,E,⟨a',h.dr.n,c'⟩,⟨⟨F,h.act.ids.n,G⟩,⟨H,h.act.pairs.n,I⟩⟩⟩).toArray) w.heap.size s l:=
     fun q=>((q.cell1 U dcA _).cell1 b dcA _).row1 o dcA _
    have B1:∀{s:Sl} {l:List ci},aQ M w.heap.size s l->aQ (((M.setCell ⟨X,13,none⟩ (.slice F h.act.ids.n G)).setCell ⟨X,14,none⟩ (.slice H h.act.pairs.n I)).setRow (X+1) (af p ⟨D,E,⟨a',h.dr.n,c'⟩,⟨⟨F,h.act.ids.n,G⟩,⟨H,h.act.pairs.n,I⟩⟩⟩).toArray) w.heap.size s l:=
     fun q=>((q.cell1 U dcA _).cell1 b dcA _).row1 o dcA _
    have A6:=y.size;have A3:∀{s:Sl} {l:List Int},ax W2 w.heap.size s l->ax M w.heap.size s l:=fun q=>((q.old (VW _ _).drew).old O).old T;exact ⟨A.kind,A.game,A.table,A.fmt,A.n0,A.n1,two (A3 k0),two (A3 k1),two (A3 k2),⟨A.act.op,A.act.side,A.act.place,A.act.target,
     two (((ax.ofClone A8 A.act.ids).lower A6).old T),B1 ((aQ.mk' (s:=⟨H,h.act.pairs.n,I⟩) A9 A.act.pairs rfl).lower (Vd A6 O.size))⟩⟩
   .exact ak ((((aa (aa y.drew O) T).setCell (by show w.heap.size<=X;omega) _).setCell (by show w.heap.size<=X;omega) _)) oA _
def Fr (p q:ao):Bool:=((((((((((((((p.kind==q.kind)&&(p.game==q.game))&&(p.table==q.table))&&(p.fmt.toList==q.fmt.toList))&&(p.n0.toList==q.n0.toList&&p.n1.toList==q.n1.toList))&&decide (p.d0=q.d0))&&decide (p.d1=q.d1))&&decide (p.dr=q.dr))&&(p.act.op==q.act.op))&&(p.act.side==q.act.side))&&(p.act.place==q.act.place))&&(p.act.target==q.act.target))&&decide (p.act.ids=q.act.ids))&&decide (p.act.pairs=q.act.pairs))
theorem mj (a b:bB):(a.toList==b.toList)=decide (a=b):=by
 have h:a.toList=b.toList↔a=b:=by
  constructor
  .intro h;have e:∀x:bB,kL x=x.toList:=fun x=>(by obtain ⟨⟨l⟩⟩:=x;exact (XD l).symm);rw [<-e,<-e] at h;have:=WS dK h;exact (pZ a).symm.trans (this.trans (pZ b))
  .rintro rfl;rfl
 rw [WX,XY,WW,h]
theorem yY (p q:ao):Fr p q=decide (p=q):=by
 obtain ⟨R,S,T,U,V,W,X,Y,Z,⟨b,c,c2,d,e,f⟩⟩:=p;obtain ⟨g,j,b2,l,m,n,o,r,s,⟨d0,d1,d2,d3,d4,d5⟩⟩:=q;unfold Fr;dsimp only;rw [WX];simp only [mj,Vh,XY,WW,ao.mk.injEq,bF.mk.injEq];constructor
 .rintro ⟨⟨⟨⟨⟨⟨⟨⟨⟨⟨⟨⟨⟨F,G⟩,H⟩,I⟩,J,L⟩,M⟩,N⟩,O⟩,P⟩,A⟩,B⟩,C⟩,D⟩,E⟩;exact ⟨F,G,H,I,J,L,M,N,O,P,A,B,C,D,E⟩
 .rintro ⟨F,G,H,I,J,L,M,N,O,P,A,B,C,D,E⟩;exact ⟨⟨⟨⟨⟨⟨⟨⟨⟨⟨⟨⟨⟨F,G⟩,H⟩,I⟩,J,L⟩,M⟩,N⟩,O⟩,P⟩,A⟩,B⟩,C⟩,D⟩,E⟩
end
end Go.Proofs.YtioigihakjlopaaGreat

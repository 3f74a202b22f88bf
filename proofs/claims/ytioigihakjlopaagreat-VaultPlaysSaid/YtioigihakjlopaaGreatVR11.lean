import Derived.Test.YtioigihakjlopaaGreatVR06
import Derived.Test.YtioigihakjlopaaGreatVR10
import Derived.Shelf.Abstract
import Derived.WalkMore
namespace Go.Proofs.YtioigihakjlopaaGreat
open Go.Proofs.Tryz
set_option linter.unusedVariables false
set_option linter.unusedSimpArgs false
set_option maxHeartbeats 16000000
set_option maxRecDepth 100000
section
open Go.RowKit Go.Maps
theorem ku {w:As} {A:Array Oper} {rest:List Oper} {o:Oper} {a:Act} {Q:Exit->Act->World->Prop} {P:Program} {k e:TypeId} {R:Value->Option (DU×List MemPlace)} {M:Nat} {l:List (Lit×DU)} (F:o.guard=none) (m:Operand) (t:TypeId) (D:o.op=Op.range t m) (K:Keyed P k) (G:P.underlying t=some (.map k e))
  (H:a.eval m= .map (some M)) (h:iV w P k R M l)
  (I:∀w',wW w' P k R M w.heap.size l l->w.grownBy w' none->w'.heap.size=w.heap.size+1->wpList P A Q rest (a.put o.dst (.pointer (some ⟨w.heap.size,0,none⟩))) w'):
  wpList P A Q (o::rest) a w:=by
 refine XJ F fun O E=> ?_;obtain ⟨w',C,J,L,N⟩:=h.range K G;unfold Oper.wp;simp [execOp,D,H,C,Result.andThen];exact E _ _ (I w' J L N)
def oD (plan:ef) (f:ct):ct:={f with b:=f.b.take (f.sure+iS plan f.p),sure:=f.sure+iS plan f.p}
theorem GF (plan:ef) (f:ct):(oD plan f).p=iP plan f.p:=rfl
def lK (fs ys:List ct) (plan:ef):List ct:=fs.map fun f=>if ys.any (fun g=>decide (g.nm=f.nm)) then f else oD plan f
theorem DN (fs:List ct) (plan:ef):lK fs fs plan=fs:=by
 unfold lK;rw [WQ (g:=id),List.map_id];intro f A;rw [Vz (Vv.2 ⟨f,A,skA⟩)];rfl
theorem Ba (fs:List ct) (plan:ef):lK fs [] plan=fs.map (oD plan):=by
 unfold lK;refine WQ fun f A=> ?_;rw [VV skA]
theorem AZ (fs ys:List ct) (plan:ef) (G:(fs.map (·.nm)).Nodup) (H:∀y∈ys,y∈fs) {f:ct} (F:f∈ys):lK fs (ys.filter fun g=>decide (g.nm≠f.nm)) plan=oK (lK fs ys plan) f.nm (oD plan):=by
 unfold lK oK;rw [We];refine WQ fun g I=> ?_;simp only [Function.comp];by_cases e:g.nm=f.nm
 .rw [VV (by
   rw [Vv];rintro ⟨x,hx,A⟩;have C:=(Vy.1 hx).2;simp only [XX] at C A;exact C (A.trans e)),Vz (show (ys.any fun E=>decide (E.nm=g.nm))=true from Vv.2 ⟨f,F,by simp [e]⟩),Vz e]
 .have e1:((ys.filter fun g=>decide (g.nm≠f.nm)).any fun x=>decide (x.nm=g.nm))=ys.any fun x=>decide (x.nm=g.nm):=by
   rw [WX,Vv,Vv];constructor
   .rintro ⟨x,hx,A⟩;exact ⟨x,(Vy.1 hx).1,A⟩
   .rintro ⟨x,hx,A⟩;refine ⟨x,Vy.2 ⟨hx,?_⟩,A⟩;simp only [XX] at A⊢;rw [A];exact e
  rw [e1];by_cases D:(ys.any fun x=>decide (x.nm=g.nm))=true
  .rw [Vz D,VV e]
  .rw [VV D,VV (show ¬(oD plan g).nm=f.nm from e)]
theorem wj {fs ys:List ct} {plan:ef} {x:ct} (h:x∈lK fs ys plan):∃f∈fs,x.nm=f.nm/\x.blk=f.blk/\x.a=f.a/\x.c=f.c:=by
 obtain ⟨f,A,rfl⟩:=VH.1 h;refine ⟨f,A,?_⟩;split<;>exact ⟨rfl,rfl,rfl,rfl⟩
theorem DD {plan:ef} {f:dJ} (h:∀x∈plan,x.1≠f.name):iS plan f=0:=by
 unfold iS;rw [VV]
 .rfl
 .rw [Vv];rintro ⟨x,hx,e⟩;exact h x hx (Wu e)
theorem DA {plan:ef} {f:dJ} {i:Nat} (A:i<plan.length) (C:plan[i].1=f.name) (E:∀j (D:j<plan.length),j<i->plan[j].1≠f.name):iS plan f=(min (max plan[i].2 0) ((f.b.length:Int)-f.sure)).toNat:=by
 have F:(plan.find? fun x=>decide (x.1=f.name))=some plan[i]:=by
  rw [Yy];exact ⟨by simp [C],i,A,rfl,fun j D=>by simpa using E j oA D⟩
 unfold iS rL;rw [Vz (Vv.2 ⟨plan[i],VQ A,by simp [C]⟩),F];rfl
structure GW (w:As) (B:Nat) (r:aG) (plan:ef) (pa:Lt) (it:Nat) (ys:List ct) (wr:As):Prop where
 sub:∀y∈ys,y∈r.fs
 ran:wW wr prog 9 Rp r.m it (r.fs.map gx) (ys.map gx)
 disk:aK wr B {r with fs:=lK r.fs ys plan}
 turn:aJ (fp r) w wr
 plan:av wr pa (plan.flatMap dH)
 it:w.heap.size<=it
theorem qZ (w:As) (B:Nat) (r:aG) (pa:Lt) (q pc:Nat) (plan:ef) (h:aK w B r) (hB:B<=w.heap.size) (hp:av w pa (plan.flatMap dH)) (D:plan.length=q) (C5:q<=maxLen)
  (C6:∀s,pa=some s->plan≠ []->∀f∈r.fs,f.blk≠s.block) (A4:∀s,pa=some s->plan≠ []->s.block<w.heap.size):
  Calls prog 24 #[.pointer (some ⟨r.d,0,none⟩),.slice pa q pc] w fun e w'=>∃r',e= .returned (.int .i64 (dz r.p plan).2)/\r'.p=(dz r.p plan).1/\bL B w r w' r':=by
 have HP:=Hd D;clear D;have J:=h.blk.rule;have E:=h.blk.free;unfold iI at J;have D6:∀(fn:Fn) (first cap:AS) (w:As),(Instr.makeFunc fn first cap).run prog w= .ok (.func fn first cap) w:=fun _ _ _ _=>rfl;cases M:r.down with
 |true=>
  rw [M] at J;go_enter func24,ntmps24;go_wp2_with fail;go_ret;refine ⟨r,?_,?_,bL.refl h⟩
  .simp [dz,aG.p,M]
  .simp [dz,aG.p,M]
 |false=>
  rw [M] at J;go_enter func24,ntmps24;go_wp2_with (at_range;refine ku rfl _ _ rfl JW underlying83 rfl h.map ?_;intro w0 A0 L D4);go_frame;go_loopw [22] (fun _ wr=>∃ys,GW w B r plan pa w.heap.size ys wr) (fun _ wr=>wr.rangeLeft r.m w.heap.size)
  case atStart=>
   have A5:Below w.heap.size w w0:=⟨L.os,L.tape,L.output,oA,fun k hk=>L.block k hk skA⟩;refine ⟨r.fs,fun _ hy=>hy,A0,?_,aJ.of_below A5,hp.below A5,VU _⟩;rw [DN];exact h.old A5
  case round=>
   obtain ⟨ys,H⟩:=hrel;clear J E;go_wp2_with (at_next;refine kv rfl _ rfl rfl H.ran ?_ ?_)
   .intro h0;subst h0;have J:=H.disk.blk.rule;have E:=H.disk.blk.free;unfold iI at J;dsimp only at J E;rw [M] at J;go_wp2_with fail;go_ret;have CW:Blk ((wr.setCell ⟨r.d,1,none⟩ (.bool true)).setCell ⟨r.d,2,none⟩ (.bool false)) r.d (iI {r with fs:=lK r.fs [] plan,down:=true,armed:=false}) 85:=(H.disk.blk.set 1 _).set 2 _;refine ⟨{r with fs:=lK r.fs [] plan,down:=true,armed:=false},?_,?_,?_,?_,?_,rfl⟩
    .simp [dz,aG.p,M]
    .simp only [dz,aG.p,M,lV,Ba];simp [GF]
    .exact (H.turn.setCell (.inl (.inl rfl)) _).setCell (.inl (.inl rfl)) _
    .exact H.disk.head _ rfl rfl rfl rfl rfl rfl h.ok.left CW fun x hx=>by rw [Vq _ _ _ _ hx,Vq _ _ _ _ hx]
    .rintro x (hx|hx|⟨f,hf,hx⟩|hx)
     .exact .inl (.inl hx)
     .exact .inl (.inr (.inl hx))
     .obtain ⟨g,A,_,X,e3,e4⟩:=wj hf;rw [X,e3,e4] at hx;exact .inl (.inr (.inr (.inl ⟨g,A,hx⟩)))
     .exact .inl (.inr (.inr (.inr hx)))
   .intro f hf w1 L hlt1 hgb1 hsz1 hen;have HG:=Hd L;clear L;have E:=H.sub f hf;have S:f∈lK r.fs ys plan:=VH.2 ⟨f,E,by rw [Vz (Vv.2 ⟨f,hf,skA⟩)]⟩;have G:=H.disk.files f S;have D7:f.blk<w.heap.size:=(h.files f E).blk.lt;have D8:=H.it;have A6:f.blk≠w.heap.size:=oA;have A7:=H.disk.ok.sure f.p (VH.2 ⟨f,S,rfl⟩);have C0:=H.disk.ok.size f.p (VH.2 ⟨f,S,rfl⟩);have B2:Blk w1 f.blk #[.slice f.a f.b.length f.c,.int .i64 (f.sure:Int)] 112:=(hgb1.block _ G.blk.lt (by simp [A6])).trans G.blk;have A8:av w1 pa (plan.flatMap dH):=by
     by_cases D:plan=[]
     .subst D;exact av.nil _ _
     .exact H.plan.keepAt fun x hx=>hgb1.block _ (by have:=A4 x hx D;have:=H.turn.size;omega) (by have:=A4 x hx D;simp;omega)
    go_wp2_with fail;have C7:Blk (w1.alloc (.cells #[.string f.nm] 9)) wr.heap.size #[.string f.nm] 9:=(by rw [<-hsz1];exact Blk.new _ _ _);have P:Below w1.heap.size w1 (w1.alloc (.cells #[.string f.nm] 9)):=(VW _ _).alloc (VU _) _;refine (DH pa q pc plan wr.heap.size f.nm _ (C7.cell rfl) (A8.below P) HP.out C5).mono ?_;rintro e C ⟨k,rfl,C8,B0⟩;have P:Below w1.heap.size w1 C:=aa P C8;have Y:=B2.old P;have B7:=A8.below P;obtain ⟨K,hK⟩:=At (iS plan f.p);have C1:f.sure+K<=f.b.length:=(by rw [hK];exact mY plan f.p A7);have D9:f.b.length<=1048576:=C0;have EE:IntKind.i64.wrap ((f.sure:Int)+(K:Int))=((f.sure+K:Nat):Int):=(by rw [VR];omega);have HK:=Hd hK;have HC:=Hd B0;clear hK B0;go_upto_if 31 with fail;go_cut [7] (fun v7 wx=>v7= .int .i64 (K:Int)/\Below C.heap.size C wx)
    case first=>
     have j:=Y.rule;rcases HC.out with ⟨rfl,C9⟩|⟨i,hi,rfl,A9,B9⟩
     .go_wp2_with fail;go_meet
      case rel=>exact ⟨by rw [HK.out,DD C9];rfl,VW _ _⟩
     .obtain ⟨b,o,rfl,DO,hc⟩:=B7.elem (g:=dH) (sz:=2) (fun _=>rfl) oA i hi;have BY:=hc 1 (show 1<2 by omega);have B3:plan[i].1=f.p.name:=A9;have A1:=DA (f:=f.p) hi B3 B9;rw [<-HK.out] at A1;generalize plan[i]=x at BY A1;have B4:C.cell? ⟨b,o+i*2+1,none⟩=some (.int .i64 x.2):=BY;have hin:i<q:=(by rw [<-HP.out];exact hi);have D0:=Hd A1;have EQ:=Hd A9;clear hc BY A1 A9 B3 B9;have L1:∀W,Old C.drew W->W.cell? ⟨b,o+i*2+1,none⟩=some (.int .i64 x.2):=fun W I=>(by rw [(I:Below C.heap.size C.drew W).cell (show b<C.heap.size from DO)];exact B4);have L2:∀W,Old C.drew W->W.cell? ⟨f.blk,0,none⟩=some (.slice f.a f.b.length f.c):=fun W I=>(by rw [(I:Below C.heap.size C.drew W).cell Y.lt];exact j 0);have L3:∀W,Old C.drew W->W.cell? ⟨f.blk,1,none⟩=some (.int .i64 (f.sure:Int)):=fun W I=>(by rw [(I:Below C.heap.size C.drew W).cell Y.lt];exact j 1);clear j B4;have e1:IntKind.i64.wrap ((f.b.length:Int)-(f.sure:Int))=(f.b.length:Int)-f.sure:=by
       have C2:f.sure<=f.b.length:=A7;rw [VR];omega
      go_wp2_with fail;refine aB (0::1::2::3::4::5::6::7::8::9::10::11::12::13::14::15::16::17::[]) krA krA cdA ?_
      repeat refine lxA ?_
      refine bJ ?_;go_wp2_with fail
      all_goals
       go_meet
       case rel=>
        refine ⟨?_,(VW _ _).drew⟩
        have X:K=(min (max x.2 0) ((f.b.length:Int)-f.sure)).toNat:=D0.out
        have C2:f.sure<=f.b.length:=A7
        congr 1
        omega
    case rest=>
     obtain ⟨rfl,CK⟩:=hcut;have Z:=Y.old CK;have j:=Z.rule;have C3:=Z.free;have N:=Z.set 1 (.int .i64 ((f.sure:Int)+(K:Int)));have C4:=N.free;have E0:(f.sure:Int)+(K:Int)<=(f.b.length:Int):=oA;have E1:0<=(f.sure:Int)+(K:Int):=oA;have E2:((f.sure:Int)+(K:Int)).toNat=f.sure+K:=oA;have E3:(f.sure:Int)+(K:Int)<=(f.c:Int):=(by have:=G.row.le;omega);have L2:∀W,Old (wc.setCell ⟨f.blk,1,none⟩ (.int .i64 ((f.sure:Int)+(K:Int)))).drew W->W.cell? ⟨f.blk,0,none⟩=some (.slice f.a f.b.length f.c):=fun W I=>(by rw [(I:Below _ _ W).cell N.lt];exact N.rule 0);have L3:∀W,Old (wc.setCell ⟨f.blk,1,none⟩ (.int .i64 ((f.sure:Int)+(K:Int)))).drew W->W.cell? ⟨f.blk,1,none⟩=some (.int .i64 ((f.sure:Int)+(K:Int))):=fun W I=>(by rw [(I:Below _ _ W).cell N.lt];exact N.rule 1);go_wp2_with fail;clear j C3;refine ah true Old Old.refl Old.trans (.step 0 (.step 1 (.step 2 (.step 3 (.step 4 (.step 5 (.step 6 (.step 7 (.step 8 (.step 9 (.step 10 (.step 11 (.step 12 .done))))))))))))) krA krA cdA ?_
     repeat refine txA ?_
     have c3:=N.rule;refine az rfl rfl rfA (fun K hK=> ?_);go_wp2_with fail;refine aq ?_;go_wp2_with fail;obtain ⟨O,l⟩:=At (((wc.setCell ⟨f.blk,1,none⟩ (.int .i64 ((f.sure:Int)+(K:Int)))).setCell ⟨f.blk,0,none⟩ (.slice f.a (f.sure+K) f.c)).drew);have D1:Blk O f.blk #[.slice f.a (f.sure+K) f.c,.int .i64 ((f.sure:Int)+(K:Int))] 112:=(by rw [l];exact (Z.set 1 _).set 0 _);have B5:Below w1.heap.size w1 wc:=aa P CK;have U:∀x,x≠f.blk->x<w1.heap.size->O.heap[x]? =w1.heap[x]? :=by
      intro x hx hl;rw [l];show ((wc.setCell _ _).setCell _ _).heap[x]? =_;rw [Vq _ _ _ _ hx,Vq _ _ _ _ hx];exact B5.block x hl
     have D2:aJ (fp r) w O:=by
      rw [l];exact ((((H.turn.trans (aJ.of_grown (F:=fun x=>x=w.heap.size) hgb1 (fun k e=>by cases e;rfl)) (fun k hk=> .inr oA)).trans (aJ.of_below (F:=fp r) B5) (fun _ hk=> .inl hk)).setCell (.inl (.inr (.inr (.inl ⟨f,E,.inl rfl⟩)))) _).setCell (.inl (.inr (.inr (.inl ⟨f,E,.inl rfl⟩)))) _).drew
     rw [<-l];clear l c3 L2 L3 N C4 Z Y B2 B7;have D5:=H.turn.size;have V:∀x,x≠f.blk->x<w.heap.size->O.heap[x]? =wr.heap[x]? :=fun x h1 h2=>(U x h1 oA).trans (hgb1.block x oA soA);have A2:=HG.out;have A3:r.m≠f.blk:=Vl (H.disk.ne_map G.blk);have D3:=h.map.lt;have B1:∀g∈lK r.fs ys plan,g.nm=f.nm->g=f:=fun g A e=>H.disk.same A S e;refine ⟨⟨ys.filter fun g=>decide (g.nm≠f.nm),fun y hy=>H.sub y (Vy.1 hy).1,(by simpa only [ne_eq,decide_not] using A2.keep (U _ A3 (show r.m<w1.heap.size by omega)) (U _ (Vl A6) A2.lt)),?_,D2,?_,VU _⟩,?_⟩
     .rw [AZ _ _ _ h.names H.sub hf];refine H.disk.upd f.nm (oD plan) (fun _ _=>⟨rfl,rfl⟩) (V _ (Vl (H.disk.ne_file S)) h.blk.lt) (V _ A3 D3) (fun x hx=>V _ (H.disk.ne_plan hx G.blk dcA) (h.plan.block_lt hx).2.1) ?_ ?_ ?_ ?_
      .intro g A hgn;obtain ⟨g0,A0,e1,X,e3,e4⟩:=wj A;refine ⟨V _ (Vl (H.disk.apart' S A (Vl hgn)).1) (by rw [X];exact (h.files g0 A0).blk.lt),fun x hx=>V _ (H.disk.ne_row A hx G.blk dcA) ?_⟩;rw [e3,e4] at hx;exact ((h.files g0 A0).row.lt hx).2.1
      .intro g A hgn;obtain rfl:=B1 g A hgn;have B6:(g.b.take (g.sure+iS plan g.p)).length=g.sure+K:=(by rw [<-HK.out,ltA];omega);refine ⟨?_,G.ge,?_⟩
       .show Blk O g.blk #[.slice g.a (g.b.take (g.sure+iS plan g.p)).length g.c,.int .i64 ((g.sure+iS plan g.p:Nat):Int)] _;rw [B6,<-HK.out,Int.natCast_add];exact D1
       .show Mid O B 5 g.a (g.b.take (g.sure+iS plan g.p)).length g.c ((g.b.take (g.sure+iS plan g.p)).map bv);rw [B6,<-HK.out,WB];exact (G.row.take (k:=g.sure+K) C1).keep fun x hx=>V _ (H.disk.ne_row A hx G.blk dcA) ((h.files g E).row.lt hx).2.1
      .intro g A hgn g2 hg2 hgn2 x hx;obtain rfl:=B1 g A hgn;exact (H.disk.apart' A hg2 (Vl hgn2)).2 x hx
      .have hp5:aG.p {r with fs:=oK (lK r.fs ys plan) f.nm (oD plan)}=kF (aG.p {r with fs:=lK r.fs ys plan}) f.nm (iP plan):=by
        simp only [aG.p,kF];rw [pS _ _ _ (iP plan) (fun _ _ _=>rfl)]
       show dY (aG.p {r with fs:=oK (lK r.fs ys plan) f.nm (oD plan)});rw [hp5];refine H.disk.ok.upd f.nm (iP plan) (fun _ _=>rfl) (fun g A _=> ?_) (fun g A _=> ?_)
       .rw [lG plan g (H.disk.ok.sure g A)];exact VU _
       .rw [lG plan g (H.disk.ok.sure g A)];exact Vd (mY plan g (H.disk.ok.sure g A)) (H.disk.ok.size g A)
     .by_cases D:plan=[]
      .subst D;exact av.nil _ _
      .exact A8.keepAt fun x hx=>U _ (Vl (C6 x hx D f E)) (by have:=A4 x hx D;omega)
     .have e1:=U _ A3 (show r.m<w1.heap.size by omega);have X:=U _ (Vl A6) A2.lt;have e3:O.rangeLeft r.m w.heap.size=w1.rangeLeft r.m w.heap.size:=(by simp only [World.rangeLeft,e1,X]);rw [e3];exact hlt1
theorem cI.grownM {T:TypeId} {w w':As} {B n c:Nat} {a:Lt} {vs:AT} (h:Mid w B T a n c vs) (C:w.grownBy w' (bI a c)):cI T w w':=
 ⟨C.size,fun b cs t G A E=>C.block b (VT.1 A).1 (fun e=>by
  obtain ⟨_,_,F,D⟩:=h.lt e.symm;rw [D] at A;cases A;exact E rfl)⟩
theorem aK.planRow {w:As} {B:Nat} {r:aG} (h:aK w B r):av w r.pa (r.plan.flatMap dH)/\(∀A,r.pa=some A->∀f∈r.fs,f.blk≠A.block)/\(∀A,r.pa=some A->r.plan≠ []->A.block<w.heap.size):=
 ⟨h.plan.row,fun A C f D=>Vl (h.ne_plan C (h.files f D).blk dcA),fun A C _=>(h.plan.block_lt C).2.1⟩
theorem zI (w:As) (B:Nat) (r:aG) (h:aK w B r) (O:B<=w.heap.size) (G:r.down=false):
  Calls prog 62 #[.pointer (some ⟨r.d,0,none⟩)] w fun e w'=>e= .returned (.int .i64 (dL r.p).2)/\∃r',r'.p=(dL r.p).1/\bL B w r w' r'/\((dL r.p).2=0->r'.fs=r.fs):=by
 have D:=h.blk.rule;have X:=h.blk.free;have H:=h.plan.le_max;unfold iI at D;have I:=h.ok.left;cases C:r.armed with
 |false=>
  rw [C] at D;have A:=Hd (show dL r.p=(r.p,0) from by simp [dL,aG.p,C]);go_enter func62,ntmps62;go_wp2_with fail;go_ret;exact ⟨by rw [A.out];rfl,r,by rw [A.out],bL.refl h,fun _=>rfl⟩
 |true=>
  rw [C] at D;by_cases E:0<r.left
  .have A:=Hd (show dL r.p=({r.p with left:=r.left-1},0) from by simp [dL,aG.p,C,E]);have W:0<=r.left/\r.left<=9223372036854775807:=I;have Y:IntKind.i64.wrap (r.left-1)=r.left-1:=(by rw [VR];omega);go_enter func62,ntmps62;go_wp2_with fail;go_ret;have F:Blk (w.setCell ⟨r.d,3,none⟩ (.int .i64 (r.left-1))) r.d (iI {r with left:=r.left-1}) 85:=by
    have:=h.blk.set 3 (.int .i64 (r.left-1));exact this
   refine ⟨by rw [A.out];rfl,{r with left:=r.left-1},by rw [A.out];rfl,⟨?_,?_,fun x hx=> .inl (wk rfl rfl rfl rfl hx),rfl⟩,fun _=>rfl⟩
   .exact (aJ.refl _ _).setCell (.inl (.inl rfl)) _
   .exact h.head _ rfl rfl rfl rfl rfl rfl (by show 0<=r.left-1/\r.left-1<=_;omega) F fun x hx=>Vq _ _ _ _ hx
  .have A:=Hd (show dL r.p=(lV r.p r.p.plan,5) from by simp [dL,aG.p,C,E]);obtain ⟨J,L,M⟩:=h.planRow;go_enter func62,ntmps62;go_wp2_with fail;refine (qZ w B r r.pa _ _ r.plan h O J rfl H (fun P S _=>L P S) M).mono ?_;rintro e w1 ⟨r',rfl,N,U⟩;go_wp2_with fail;go_ret;have V:dz r.p r.plan=(lV r.p r.p.plan,0):=(by simp [dz,aG.p,G]);exact ⟨by rw [A.out];rfl,r',by rw [A.out,N,V],U,fun e=>by rw [A.out] at e;cases e⟩
theorem zt (w:As) (B:Nat) (r:aG) (h:aK w B r):
  Calls prog 25 #[.pointer (some ⟨r.d,0,none⟩)] w fun e w'=>e= .returned (.int .i64 (lf r.p).2)/\∃r',r'.p=(lf r.p).1/\bL B w r w' r':=by
 have D:=h.blk.rule;have F:=h.blk.free;unfold iI at D;cases C:r.down with
 |false=>
  rw [C] at D;have A:=Hd (show lf r.p=(r.p,2) from by simp [lf,aG.p,C]);go_enter func25,ntmps25;go_wp2_with fail;go_ret;exact ⟨by rw [A.out];rfl,r,by rw [A.out],bL.refl h⟩
 |true=>
  rw [C] at D;have A:=Hd (show lf r.p=({r.p with down:=false},0) from by simp [lf,aG.p,C]);go_enter func25,ntmps25;go_wp2_with fail;go_ret;have E:Blk (w.setCell ⟨r.d,1,none⟩ (.bool false)) r.d (iI {r with down:=false}) 85:=h.blk.set 1 (.bool false);refine ⟨by rw [A.out];rfl,{r with down:=false},by rw [A.out];rfl,⟨?_,?_,fun x hx=> .inl (wk rfl rfl rfl rfl hx),rfl⟩⟩
  .exact (aJ.refl _ _).setCell (.inl (.inl rfl)) _
  .exact h.head _ rfl rfl rfl rfl rfl rfl h.ok.left E fun x hx=>Vq _ _ _ _ hx
def newR (w:As):aG:=⟨w.heap.size+1,w.heap.size,[],false,false,0,none,0,[]⟩
theorem JF (w:As):
  Calls prog 10 #[] w fun e w'=>e= .returned (.pointer (some ⟨w.heap.size+1,0,none⟩))/\aK w' w.heap.size (newR w)/\Below w.heap.size w w'/\w'.heap.size=w.heap.size+2:=by
 have D:= @run_makeMap prog;go_enter func10,ntmps10;go_wp2_with fail;go_ret;have C:Blk ((w.alloc (.map #[] 0)).alloc (.cells #[.map (some w.heap.size),.bool false,.bool false,.int .i64 0,.slice none 0 0] 85)) (w.heap.size+1) (iI (newR w)) 85:=Blk.new2' _ _ _ _;refine ⟨rfl,⟨by show w.heap.size<=w.heap.size+1;omega,VU _,C,?_,fun f A=>by simp [newR] at A,List.Pairwise.nil,Own.nil _ _ _ _,?_⟩,((VW _ _).alloc (VU _) _).alloc skA _,skA⟩
 .exact (iV.made w prog 9 Rp).keep (Vp _ _ _ (by simp [newR]))
 .exact ⟨List.nodup_nil,fun f A=>by simp [aG.p,newR] at A,fun f A=>by simp [aG.p,newR] at A,fun f A=>by simp [aG.p,newR] at A,by simp [aG.p,newR],by simp [aG.p,newR]⟩
theorem KF:bC prog 22 5 1 1:=bC.mk (z:= .int .u8 0) underlying22 krA rfl oA
theorem pr {w:As} {B:Nat} {r:aG} (h:aK w B r) {f:ct} (A:f∈r.fs):fF r.p f.nm=some f.p:=by
 have:=DT h.ok.names (show f.p∈r.p.fs from VH.2 ⟨f,A,rfl⟩);exact this
theorem pt {r:aG} {nm:bB} (A:∀f∈r.fs,f.nm≠nm):fF r.p nm=none:=by
 unfold fF;rw [XE];intro x hx;obtain ⟨f,C,rfl⟩:=VH.1 hx;exact fun e=>A f C (Wu e)
def Nq (l:Le) (a2:Lt) (c2:Nat) (g:ct):ct:={g with a:=a2,c:=c2,b:=g.b++l}
theorem yu {w O:As} {B:Nat} {r:aG} {f:ct} (h:aK w B r) (D:f∈r.fs) {l:Le} {len:Nat} (V:l.length=len) (o:f.b.length+len<=1048576) {C:Lt} {c2:Nat}
  (hm:Mid O B 5 C (f.b.length+len) c2 (f.b.map bv++l.map bv)) (H:w.grownBy O (bI f.a f.c)) (W:bI C c2=bI f.a f.c\/∃b,bI C c2=some b/\w.heap.size<=b):
  bL B w r (O.setCell ⟨f.blk,0,none⟩ (.slice C (f.b.length+len) c2)) {r with fs:=oK r.fs f.nm (Nq l C c2)}:=by
 have E:=h.files f D;have q:=cI.grownM E.row H;have X:=E.blk.keepNot q dcA;have M:∀g∈r.fs,g.nm=f.nm->g=f:=fun g H e=>h.same H D e;have I:∀x,x≠f.blk->x<w.heap.size->bI f.a f.c≠some x->(O.setCell ⟨f.blk,0,none⟩ (.slice C (f.b.length+len) c2)).heap[x]? =w.heap[x]? :=fun x h1 U h3=>by
  rw [Vq _ _ _ _ h1];exact H.block x U (Vl h3)
 have Y:∀x,bI f.a f.c=some x->fp r x:=fun x hx=> .inr (.inr (.inl ⟨f,D,.inr hx⟩));have S:∀{b:Nat} {cs:AS} {t:TypeId},Blk w b cs t->t≠5->bI f.a f.c≠some b:=fun G ht e=>h.ne_row D e G ht rfl;have s:bI f.a f.c≠some r.m:=fun e=>by
  obtain ⟨_,_,y,P⟩:=E.row.lt e;exact h.ne_map P rfl
 refine ⟨(aJ.of_grown H Y).setCell (.inl (.inr (.inr (.inl ⟨f,D,.inl rfl⟩)))) _,?_,?_,rfl⟩
 .refine h.upd f.nm (Nq l C c2) (fun _ _=>⟨rfl,rfl⟩) (I _ (Vl (h.ne_file D)) h.blk.lt (S h.blk dcA)) (I _ (Vl (h.ne_map E.blk)) h.map.lt s) (fun x hx=> ?_) ?_ ?_ ?_ ?_
  .obtain ⟨_,U,y,P⟩:=h.plan.block_lt hx;exact I _ (h.ne_plan hx E.blk dcA) U (S P dcA)
  .intro g A F;obtain ⟨G,hr⟩:=h.apart' D A (Vl F);refine ⟨I _ (Vl G) (h.files g A).blk.lt (S (h.files g A).blk dcA),fun x hx=>I _ (h.ne_row A hx E.blk dcA) ((h.files g A).row.lt hx).2.1 (fun e=>hr x e hx)⟩
  .intro g A F;obtain rfl:=M g A F;have Z:(g.b++l).length=g.b.length+len:=(by rw [laA,V]);refine ⟨?_,E.ge,?_⟩
   .show Blk _ g.blk #[.slice C (g.b++l).length c2,.int .i64 (g.sure:Int)] _;rw [Z];exact X.set 0 _
   .show Mid _ B 5 C (g.b++l).length c2 ((g.b++l).map bv);rw [Z,VF];exact hm.setCell X dcA 0 _
  .intro g A F g2 hg2 hgn2 x hx;obtain rfl:=M g A F;rcases W with e|⟨b,e,G⟩
   .exact (h.apart' D hg2 (Vl hgn2)).2 x (by rw [<-e];exact hx)
   .intro J;have:=((h.files g2 hg2).row.lt J).2.1;have j:bI C c2=some x:=hx;rw [e] at j;cases j;omega
  .have hp5:aG.p {r with fs:=oK r.fs f.nm (Nq l C c2)}=kF r.p f.nm (fun f=>{f with b:=f.b++l}):=by
    simp only [aG.p,kF];rw [pS _ _ _ (fun f=>{f with b:=f.b++l}) (fun _ _ _=>rfl)]
   show dY (aG.p {r with fs:=oK r.fs f.nm (Nq l C c2)});rw [hp5];refine h.ok.upd f.nm _ (fun _ _=>rfl) (fun g A _=> ?_) (fun g A F=> ?_)
   .have:=h.ok.sure g A;show g.sure<=(g.b++l).length;rw [laA];omega
   .obtain ⟨L,N,rfl⟩:=VH.1 A;obtain rfl:=M L N F;show (L.b++l).length<=fE;rw [laA,V];exact o
 .rintro x (hx|hx|⟨g,A,hx⟩|hx)
  .exact .inl (.inl hx)
  .exact .inl (.inr (.inl hx))
  .obtain ⟨L,N,⟨e,rfl⟩|⟨e,rfl⟩⟩:=oZ A
   .obtain rfl:=M L N e;rcases hx with hx|hx
    .exact .inl (.inr (.inr (.inl ⟨L,D,.inl hx⟩)))
    .have hx':bI C c2=some x:=hx;rcases W with J|⟨b,J,G⟩
     .rw [J] at hx';exact .inl (Y x hx')
     .rw [J] at hx';cases hx';exact .inr G
   .exact .inl (.inr (.inr (.inl ⟨_,N,hx⟩)))
  .exact .inl (.inr (.inr (.inr hx)))
def sX (B:Nat) (w:As) (r:aG) (nm:bB) (l:Le) (v:Int) (w':As):Prop:=v=(bw r.p nm l).2/\∃r',r'.p=(bw r.p nm l).1/\bL B w r w' r'
theorem yw (w:As) (B:Nat) (r:aG) (f:ct) (h:aK w B r) (Y:B<=w.heap.size) (U:r.down=false) (E:f∈r.fs) (J bd:Nat) (a:Lt) (len cap:Nat) (l:Le)
  (H:Blk w J #[.slice a len cap] 22) (m:Blk w bd #[.pointer (some ⟨r.d,0,none⟩)] 26) (hl:aj w a l) (O:l.length=len) (o:len<=maxLen):
  Calls prog 61 #[.pointer (some ⟨f.blk,0,none⟩),.pointer (some ⟨J,0,none⟩),.pointer (some ⟨bd,0,none⟩)] w fun e w'=>∃v,e= .returned (.int .i64 v)/\sX B w r f.nm l v w':=by
 unfold maxLen at o;have F:=Hd O;have I:=Hd U;clear O U;have A:=h.files f E;have A0:f.b.length<=1048576:=h.ok.size f.p (VH.2 ⟨f,E,rfl⟩);have V:=Hd (pr h E);have e1:IntKind.i64.wrap (1048576-(f.b.length:Int))=1048576-(f.b.length:Int):=(by rw [VR];omega);have L1:∀W,Old w.drew W->W.cell? ⟨J,0,none⟩=some (.slice a len cap):=fun W D=>(by rw [(D:Below w.heap.size w.drew W).cell H.lt];exact H.rule 0);have L2:∀W,Old w.drew W->W.cell? ⟨f.blk,0,none⟩=some (.slice f.a f.b.length f.c):=fun W D=>(by rw [(D:Below w.heap.size w.drew W).cell A.blk.lt];exact A.blk.rule 0);by_cases P:1048576-f.b.length<len
 .have t0:decide (1048576-(f.b.length:Int)<(len:Int))=true:=soA;go_enter func61,ntmps61;go_wp2_with fail;refine aB (0::1::2::3::4::5::6::7::8::[]) krA krA cdA ?_
  repeat refine lxA ?_
  refine bJ ?_;go_wp2_with fail;go_ret;refine ⟨3,rfl,?_⟩;have e:bw r.p f.nm l=(r.p,3):=by
   unfold bw mp;rw [V.out];have:fE-f.p.b.length<l.length:=(by rw [F.out];exact P);simp [aG.p,I.out,this]
  unfold sX;rw [e];have Z:=bL.refl h;exact ⟨rfl,r,rfl,⟨Z.turn.drew,h.drew,Z.foot',rfl⟩⟩
 .have t0:decide (1048576-(f.b.length:Int)<(len:Int))=false:=soA;go_enter func61,ntmps61;go_wp2_with fail;refine aB (0::1::2::3::4::5::6::7::8::[]) krA krA cdA ?_
  repeat refine lxA ?_
  refine bJ ?_;clear L1 L2;go_wp2_with fail;have r0:=fun W (D:cI 5 w.drew.drew W)=>(A.blk.drew.drew.keepNot D dcA).rule;have r1:=fun W (D:cI 5 w.drew.drew W)=>(H.drew.drew.keepNot D dcA).rule;refine kO 5 (.step 0 (.step 1 (.step 2 (.step 3 (.step 4 (.step 5 (.step 6 (.step 7 (.step 8 (.step 9 .done)))))))))) krA krA cdA ?_
  repeat refine txA ?_
  refine am rfl rfl rfA (fun K L=> ?_);refine ke (.tmp 18) (.tmp 19) 22 rfl KF rfl A.row.drew.drew rfl (av.drew (av.drew hl)) (by rw [lmA];exact F.out) (cV _) mxA oA Y ?_;intro M c2 w2 q C g;refine L _ _ (cI.grownM A.row.drew.drew C) ?_;clear L K r0 r1;have X:=cI.grownM A.row.drew.drew C;have G:=A.blk.drew.drew.keepNot X dcA;have S:=m.drew.drew.keepNot X dcA;have c0:=G.rule;have c1:=G.free
  repeat refine txA ?_
  refine az rfl rfl rfA (fun K L=> ?_);go_wp2_with fail;refine aq ?_;have N:=Hd (yu h E F.out oA q ⟨C.os,C.tape,C.output,C.size,C.block⟩ g);have j:B<=(w2.setCell ⟨f.blk,0,none⟩ (.slice M (f.b.length+len) c2)).heap.size:=Vd Y N.out.turn.size;have A1:=(S.other ⟨f.blk,0,none⟩ (.slice M (f.b.length+len) c2) (Blk.ne S G dcA)).rule;clear c0 c1;go_wp2_with fail;refine (zI _ B _ N.out.at' j I.out).mono ?_;rintro e w4 ⟨rfl,r',s,hs,_⟩;go_wp2_with fail;go_ret;refine ⟨_,rfl,?_⟩;have e:bw r.p f.nm l=dL (kF r.p f.nm (fun f=>{f with b:=f.b++l})):=by
   unfold bw mp;rw [V.out];have:¬fE-f.p.b.length<l.length:=(by rw [F.out];exact P);simp [aG.p,I.out,this]
  have y:aG.p {r with fs:=oK r.fs f.nm (Nq l M c2)}=kF r.p f.nm (fun f=>{f with b:=f.b++l}):=by
   simp only [aG.p,kF];rw [pS _ _ _ (fun f=>{f with b:=f.b++l}) (fun _ _ _=>rfl)]
  unfold sX;rw [e,<-y];exact ⟨rfl,r',s,N.out.trans hs⟩
end
section
open Go.RowKit Go.Maps Go.Shelf
theorem bL.pre {B:Nat} {w0 w w':As} {r r':aG} (A:Below w0.heap.size w0 w) (h:bL B w r w' r'):bL B w0 r w' r':=
 ⟨(aJ.of_below A).trans h.turn (fun _ C=> .inl C),h.at',fun x hx=>(h.foot' x hx).imp id fun hx=>Vd A.size hx,h.d⟩
theorem bL.post {B:Nat} {w w' A:As} {r r':aG} (h:bL B w r w' r') (C:Below w'.heap.size w' A):bL B w r A r':=
 ⟨h.turn.trans (aJ.of_below (F:=fp r) C) (fun _ D=> .inl D),h.at'.old C,h.foot',h.d⟩
theorem bL.quiet {B:Nat} {w w':As} {r:aG} (h:aK w B r) (A:Below w.heap.size w w'):bL B w r w' r:=(bL.refl h).post A
theorem EC (args:AS) (w:As):(callFunc 61 args).run prog w= .ok (.enter 61 args) w:=enters_of func61 krA rfl args w
theorem sS (w:As) (B:Nat) (r:aG) (nm:bB) (h:aK w B r) (I:B<=w.heap.size) (J:nm.size<=maxLen) (a:Lt) (len cap:Nat) (l:Le) (L:aj w a l) (F:l.length=len) (H:len<=maxLen):
  Calls prog 16 #[.pointer (some ⟨r.d,0,none⟩),.string nm,.slice a len cap] w fun e w'=>e= .returned (.int .i64 (bw r.p nm l).2)/\∃r',r'.p=(bw r.p nm l).1/\bL B w r w' r':=by
 have M:=Hd F;clear F;have N:∀(fn:Fn) (first cap:AS) (w:As),(Instr.makeFunc fn first cap).run prog w= .ok (.func fn first cap) w:=fun _ _ _ _=>rfl;have A:Below w.heap.size w ((w.alloc (.cells #[.pointer (some ⟨r.d,0,none⟩)] 26)).alloc (.cells #[.slice a len cap] 22)):=((VW _ _).alloc (VU _) _).alloc skA _;have G:=h.old A;go_enter func16,ntmps16;go_wp2_with fail;refine (ul G J 61 _ EC (sX B w r nm l) ?_ ?_ ?_).mono ?_
 .intro hdn;have e:bw r.p nm l=(r.p,5):=(by simp [bw,mp,aG.p,hdn]);unfold sX;rw [e];exact ⟨rfl,r,rfl,bL.quiet h A⟩
 .intro hdn hno;have e:bw r.p nm l=(r.p,4):=(by unfold bw mp;rw [pt hno];simp [aG.p,hdn]);unfold sX;rw [e];exact ⟨rfl,r,rfl,bL.quiet h A⟩
 .intro f hf hn hdn;subst hn;refine (yw _ B r f G (Vd I A.size) hdn hf _ _ a len cap l (Blk.new2' _ _ _ _) (Blk.new2 _ _ _ _) (L.below A) M.out H).mono ?_;rintro e w1 ⟨v,rfl,E,r',C,D⟩;exact ⟨v,rfl,E,r',C,D.pre A⟩
 .rintro e w1 ⟨v,rfl,E,r',C,D⟩;go_wp2_with fail;go_ret;refine ⟨?_,r',C,D⟩;rw [<-E];rfl
def oh (B:Nat) (w:As) (r:aG) (nm:bB) (v:Int) (w':As):Prop:=v=(et r.p nm).2/\∃r',r'.p=(et r.p nm).1/\bL B w r w' r'
theorem Ch {w:As} {B:Nat} {r:aG} {f:ct} (h:aK w B r) (D:f∈r.fs):bL B w r (w.setCell ⟨f.blk,1,none⟩ (.int .i64 (f.b.length:Int))) {r with fs:=oK r.fs f.nm fun f=>{f with sure:=f.b.length}}:=by
 have C:=h.files f D;have F:∀g∈r.fs,g.nm=f.nm->g=f:=fun g A e=>h.same A D e;have E:∀x,x≠f.blk->(w.setCell ⟨f.blk,1,none⟩ (.int .i64 (f.b.length:Int))).heap[x]? =w.heap[x]? :=fun x I=>Vq _ _ _ _ I;refine ⟨(aJ.refl _ _).setCell (.inl (.inr (.inr (.inl ⟨f,D,.inl rfl⟩)))) _,?_,?_,rfl⟩
 .refine h.upd f.nm (fun f=>{f with sure:=f.b.length}) (fun _ _=>⟨rfl,rfl⟩) (E _ (Vl (h.ne_file D))) (E _ (Vl (h.ne_map C.blk))) (fun x hx=>E _ (h.ne_plan hx C.blk dcA)) ?_ ?_ ?_ ?_
  .intro g A hgn;exact ⟨E _ (Vl (h.apart' D A (Vl hgn)).1),fun x hx=>E _ (h.ne_row A hx C.blk dcA)⟩
  .intro g A hgn;obtain rfl:=F g A hgn;exact ⟨C.blk.set 1 _,C.ge,C.row.setCell C.blk dcA 1 _⟩
  .intro g A hgn g2 hg2 hgn2 x hx;obtain rfl:=F g A hgn;exact (h.apart' D hg2 (Vl hgn2)).2 x hx
  .have hp5:aG.p {r with fs:=oK r.fs f.nm fun f=>{f with sure:=f.b.length}}=kF r.p f.nm (fun f=>{f with sure:=f.b.length}):=by
    simp only [aG.p,kF];rw [pS _ _ _ (fun f=>{f with sure:=f.b.length}) (fun _ _ _=>rfl)]
   show dY (aG.p {r with fs:=oK r.fs f.nm fun f=>{f with sure:=f.b.length}});rw [hp5];exact h.ok.upd f.nm _ (fun _ _=>rfl) (fun g A _=>VU _) (fun g A _=>h.ok.size g A)
 .rintro x (hx|hx|⟨g,H,hx⟩|hx)
  .exact .inl (.inl hx)
  .exact .inl (.inr (.inl hx))
  .obtain ⟨J,G,⟨e,rfl⟩|⟨e,rfl⟩⟩:=oZ H
   .exact .inl (.inr (.inr (.inl ⟨J,G,hx⟩)))
   .exact .inl (.inr (.inr (.inl ⟨_,G,hx⟩)))
  .exact .inl (.inr (.inr (.inr hx)))
theorem Cg (w:As) (B:Nat) (r:aG) (f:ct) (h:aK w B r) (S:B<=w.heap.size) (E:r.down=false) (J:f∈r.fs) (bd:Nat)
  (N:Blk w bd #[.pointer (some ⟨r.d,0,none⟩)] 26):
  Calls prog 137 #[.pointer (some ⟨f.blk,0,none⟩),.pointer (some ⟨bd,0,none⟩)] w fun e w'=>∃v,e= .returned (.int .i64 v)/\oh B w r f.nm v w':=by
 have F:=Hd E;clear E;have O:=Hd (pr h J);have U:=N.rule;go_enter func137,ntmps137;go_wp2_with fail;refine (zI _ B _ h S F.out).mono ?_;rintro e w1 ⟨rfl,L,G,A,H⟩;clear U;have M:=Hd (show et r.p f.nm=if (dL r.p).2=0 then (kF (dL r.p).1 f.nm fun f=>{f with sure:=f.b.length},0) else dL r.p by
  unfold et mp;rw [O.out];simp [aG.p,F.out])
 by_cases C:(dL r.p).2=0
 .have hfs1:=H C;have I:f∈L.fs:=(by rw [hfs1];exact J);have D:=A.at'.files f I;have W:=D.blk.rule;have c2:=D.blk.free;have V:=Hd C;clear H;go_wp2_with fail;go_ret;refine ⟨0,rfl,?_⟩;unfold oh;rw [M.out,Vz V.out];have P:=Ch A.at' I;refine ⟨rfl,_,?_,A.trans P⟩;rw [<-G];simp only [aG.p,kF];rw [pS _ _ _ (fun f=>{f with sure:=f.b.length}) (fun _ _ _=>rfl)]
 .go_wp2_with fail;go_ret;refine ⟨_,rfl,?_⟩;unfold oh;rw [M.out,VV C];exact ⟨rfl,L,G,A⟩
theorem An (args:AS) (w:As):(callFunc 137 args).run prog w= .ok (.enter 137 args) w:=enters_of func137 krA rfl args w
theorem yS (w:As) (B:Nat) (r:aG) (nm:bB) (h:aK w B r) (G:B<=w.heap.size) (H:nm.size<=maxLen):
  Calls prog 106 #[.pointer (some ⟨r.d,0,none⟩),.string nm] w fun e w'=>e= .returned (.int .i64 (et r.p nm).2)/\∃r',r'.p=(et r.p nm).1/\bL B w r w' r':=by
 have I:∀(fn:Fn) (first cap:AS) (w:As),(Instr.makeFunc fn first cap).run prog w= .ok (.func fn first cap) w:=fun _ _ _ _=>rfl;have A:Below w.heap.size w (w.alloc (.cells #[.pointer (some ⟨r.d,0,none⟩)] 26)):=(VW _ _).alloc (VU _) _;have F:=h.old A;go_enter func106,ntmps106;go_wp2_with fail;refine (ul F H 137 _ An (oh B w r nm) ?_ ?_ ?_).mono ?_
 .intro hdn;have e:et r.p nm=(r.p,5):=(by simp [et,mp,aG.p,hdn]);unfold oh;rw [e];exact ⟨rfl,r,rfl,bL.quiet h A⟩
 .intro hdn hno;have e:et r.p nm=(r.p,4):=(by unfold et mp;rw [pt hno];simp [aG.p,hdn]);unfold oh;rw [e];exact ⟨rfl,r,rfl,bL.quiet h A⟩
 .intro f hf hn hdn;subst hn;refine (Cg _ B r f F (Vd G A.size) hdn hf _ (Blk.new _ _ _)).mono ?_;rintro e w1 ⟨v,rfl,E,r',C,D⟩;exact ⟨v,rfl,E,r',C,D.pre A⟩
 .rintro e w1 ⟨v,rfl,E,r',C,D⟩;go_wp2_with fail;go_ret;refine ⟨?_,r',C,D⟩;rw [<-E];rfl
end
section
def stp (r:BitVec 32):BitVec 32:=(r>>>1)^^^(0xedb88320#32&&& -(r&&&1#32))
def Ja:Nat->BitVec 32->BitVec 32
 |0,r=>r
 |k+1,r=>stp (Ja k r)
def MR (r:BitVec 32) (c:UInt8):BitVec 32:=Ja 8 (r^^^c.toBitVec.setWidth 32)
def oW (r:BitVec 32) (l:Le):BitVec 32:=l.foldl MR r
def more (s:BitVec 32) (l:Le):BitVec 32:= ~~~(oW (~~~s) l)
theorem Bd (r:BitVec 32) (l:Le) (c:UInt8):oW r (l++ [c])=MR (oW r l) c:=by simp [oW]
theorem Bc (r:BitVec 32) (l:Le) (k:Nat) (h:k<l.length):oW r (l.take (k+1))=MR (oW r (l.take k)) l[k]:=by
 rw [Vj h,Bd]
def le4 (s:BitVec 32):Le:=[⟨s.setWidth 8⟩,⟨(s>>>8).setWidth 8⟩,⟨(s>>>16).setWidth 8⟩,⟨(s>>>24).setWidth 8⟩]
end
section
open Go.RowKit
theorem MM (r:BitVec 32):U32 r/(2:Int)=U32 (r>>>1):=od r 1
theorem shr1 (r:BitVec 32):BitVec.ofInt 32 (U32 r/2)=r>>>1:=by rw [show (2:Int)=((2^1:Nat):Int) from rfl,od,gG]
theorem Mx (r:BitVec 32):BitVec.ofInt 32 (-U32 r%4294967296)= -r:=by rw [KX,gG]
attribute [local go_sem] iz iA jl gG ig shr1 Mx qB
theorem Fi (r:BitVec 32) (w:As):
  Calls prog 163 #[.int .u32 (U32 r)] w fun e w'=>e= .returned (.int .u32 (U32 (stp r)))/\w=w':=by
 go_enter func163,ntmps163;go_wp2;go_ret;exact ⟨rfl,rfl⟩
theorem Gu (r:BitVec 32) (c:UInt8) (b:Nat) (w:As)
  (C:w.cell? ⟨b,0,none⟩=some (.int .u32 (U32 r))) (D:w.frozen? ⟨b,0,none⟩=false):
  Calls prog 162 #[.int .u8 (U8 c),.pointer (some ⟨b,0,none⟩)] w fun e w'=>e= .returned (.tuple #[])/\w.setCell ⟨b,0,none⟩ (.int .u32 (U32 (MR r c)))=w':=by
 have E:=BA c;have F:=yA c;go_enter func162,ntmps162;go_wp2_with fail;go_loopw [7] (fun i wr=>∃k:Nat,k<=8/\i= .int .i64 k/\w.setCell ⟨b,0,none⟩ (.int .u32 (U32 (Ja k (r^^^c.toBitVec.setWidth 32))))=wr) (fun i _=>8-(intOf i).toNat)
 case atStart=>exact ⟨0,oA,rfl,rfl⟩
 case round=>
  obtain ⟨k,G,rfl,rfl⟩:=hrel;by_cases A:k<8
  .go_wp2_with (go_at_call 163;refine (Fi _ _).mono ?_;rintro e w' ⟨rfl,rfl⟩);go_roundw
   case rel=>exact ⟨k+1,oA,gnA,(tF _ _ _ _).symm⟩
   case measure=>simp [intOf];omega
  .go_wp2;go_end0;obtain rfl:k=8:=oA;exact ⟨rfl,rfl⟩
theorem wI (l:Le) (k:Nat) (h:k<l.length) (r:BitVec 32):MR (oW r (l.take k)) l[k]=oW r (l.take (k+1)):=(Bc r l k h).symm
theorem uj (s:BitVec 32) (a:Lt) (len cap:Nat) (l:Le) (w:As) (G:aj w a l) (F:l.length=len) (H:len<=maxLen):
  Calls prog 135 #[.int .u32 (U32 s),.slice a len cap] w fun e w'=>e= .returned (.int .u32 (U32 (more s l)))/\Below w.heap.size w w':=by
 subst F;unfold maxLen at H;have M:∀(fn:Fn) (first cap:AS) (w:As),(Instr.makeFunc fn first cap).run prog w= .ok (.func fn first cap) w:=fun _ _ _ _=>rfl;go_enter func135,ntmps135;go_wp2_with fail;go_loopw [14,8] (fun i _ wr=>∃k:Nat,k<=l.length/\i= .int .i64 k/\w.alloc (.cells #[.int .u32 (U32 (oW (~~~s) (l.take k)))] 196)=wr) (fun i _ _=>l.length-(intOf i).toNat)
 case atStart=>exact ⟨0,oA,rfl,rfl⟩
 case round=>
  obtain ⟨k,O,rfl,rfl⟩:=hrel;by_cases A:k<l.length
  .obtain ⟨b,o,rfl,C⟩:=G.at oA;have I:b<w.heap.size:=Vx w _ (C k A);have N:∀v,(w.alloc (.cells #[v] 196)).cell? ⟨b,o+k,none⟩=some (.int .u8 (U8 l[k])):=fun v=>by
    rw [World.cell?_alloc_past _ _ _ (by simpa using I)];exact C k A
   have E:∀v,(w.alloc (.cells #[v] 196)).cell? ⟨w.heap.size,0,none⟩=some v:=fun v=>by
    rw [World.cell?_alloc_at _ _ _ _ rfl];rfl
   have J:∀v,(w.alloc (.cells #[v] 196)).frozen? ⟨w.heap.size,0,none⟩=false:=fun v=>World.frozen?_alloc_at _ _ _ _ rfl;clear C;have D:=wI l k A (~~~s);have L:=Hd D;clear D;go_wp2_with (go_at_call 162;refine (Gu _ _ _ _ (E _) (J _)).mono ?_;rintro e w' ⟨rfl,rfl⟩);go_roundw
   case rel=>exact ⟨k+1,oA,gnA,by rw [<-L.out]⟩
   case measure=>simp [intOf];omega
  .have E:∀v,(w.alloc (.cells #[v] 196)).cell? ⟨w.heap.size,0,none⟩=some v:=fun v=>by
    rw [World.cell?_alloc_at _ _ _ _ rfl];rfl
   go_wp2;go_ret;obtain rfl:k=l.length:=oA;exact ⟨by simp [more],(VW _ _).alloc (VU _) _⟩
theorem Dh (a:Lt) (len cap:Nat) (l:Le) (w:As) (C:aj w a l) (A:l.length=len) (D:len<=maxLen):
  Calls prog 135 #[.int .u32 0,.slice a len cap] w fun e w'=>e= .returned (.int .u32 (U32 (more 0#32 l)))/\Below w.heap.size w w':=
 uj 0#32 a len cap l w C A D
theorem Ci (a:Lt) (len cap:Nat) (l:Le) (w:As) (C:aj w a l) (A:l.length=len) (D:len<=maxLen):
  Calls prog 136 #[.slice a len cap] w fun e w'=>e= .returned (.int .u32 (U32 (more 0#32 l)))/\Below w.heap.size w w':=by
 have E:=Hd A;clear A;go_enter func136,ntmps136;go_wp2_with fail;refine (Dh _ _ _ _ _ C E.out D).mono ?_;rintro e w1 ⟨rfl,F⟩;go_wp2_with fail;go_ret;exact ⟨rfl,F⟩
theorem oG:bC prog 22 5 1 1:=bC.mk (z:= .int .u8 0) underlying22 krA rfl oA
theorem Eo (s:BitVec 32):U32 s%256=U8 ⟨s.setWidth 8⟩:=nj s
theorem Im (s:BitVec 32):U32 s/(256:Int)%(256:Int)=U8 ⟨(s>>>8).setWidth 8⟩:=by
 have h:U32 s/(256:Int)=U32 (s>>>8):=od s 8;rw [h];exact nj _
theorem Er (s:BitVec 32):U32 s/(65536:Int)%(256:Int)=U8 ⟨(s>>>16).setWidth 8⟩:=by
 have h:U32 s/(65536:Int)=U32 (s>>>16):=od s 16;rw [h];exact nj _
theorem Ep (s:BitVec 32):U32 s/(16777216:Int)%(256:Int)=U8 ⟨(s>>>24).setWidth 8⟩:=by
 have h:U32 s/(16777216:Int)=U32 (s>>>24):=od s 24;rw [h];exact nj _
theorem CY {w:As} {B:Nat} (s:BitVec 32) (A:B<=w.heap.size):
  Own (w.alloc (.cells #[.int .u8 (U32 s%256),.int .u8 (U32 s/256%256),.int .u8 (U32 s/65536%256),.int .u8 (U32 s/16777216%256)] 5)) B 5 1 (some ⟨w.heap.size,0,none⟩) 4 4 ((le4 s).map bv):=
 Own.lit _ _ _ (by rw [Eo,Im,Er,Ep];rfl) rfl A mxA
end
section
open Go.RowKit
attribute [local go_sem] iz iA jl gG ig shr1 Mx qB
theorem Jb (r:BitVec 32) (h:r&&&1#32=1#32):stp r=(r>>>1)^^^0xedb88320#32:=by
 rw [stp,h];rfl
theorem Fh (r:BitVec 32) (h:¬r&&&1#32=1#32):stp r=r>>>1:=by
 have A:r&&&1#32=0#32:=by
  have C:(r&&&1#32).toNat≠1:=fun e=>h (Wx (by rw [e];rfl));have D:(r&&&1#32).toNat=r.toNat%2:=by
   rw [BitVec.toNat_and];exact Yw _ 1
  apply Wx;simp only [Wi];omega
 rw [stp,A];simp
theorem JN {r:BitVec 32} (h:r&&&1#32=1#32):(U32 (r&&&1#32)==1)=true:=by rw [h];rfl
theorem MB {r:BitVec 32} (h:¬r&&&1#32=1#32):(U32 (r&&&1#32)==1)=false:=by
 have e:(1:Int)=U32 1#32:=rfl;rw [e,KZ];simp [h]
theorem ov (s:BitVec 32) (a:Lt) (len cap:Nat) (l:Le) (w:As) (H:aj w a l) (G:l.length=len) (I:len<=maxLen):
  Calls prog 160 #[.int .u32 (U32 s),.slice a len cap] w fun e w'=>e= .returned (.int .u32 (U32 (more s l)))/\w=w':=by
 subst G;unfold maxLen at I;go_enter func160,ntmps160;go_wp2_with fail;go_loop [6,5] (fun i r=>∃k:Nat,k<=l.length/\i= .int .i64 k/\r= .int .u32 (U32 (oW (~~~s) (l.take k)))) (fun i _=>l.length-(intOf i).toNat)
 case atStart=>exact ⟨0,oA,rfl,rfl⟩
 case round=>
  obtain ⟨k,N,rfl,rfl⟩:=hrel;by_cases D:k<l.length
  .obtain ⟨b,o,rfl,E⟩:=H.at oA;have M:=E k D;clear E;have J:=Hd (wI l k D (~~~s));have O:=BA l[k];have P:=yA l[k];go_wp2_with fail;go_loop [7,5] (fun i r=>∃j:Nat,j<=8/\i= .int .i64 j/\r= .int .u32 (U32 (Ja j (oW (~~~s) (l.take k)^^^l[k].toBitVec.setWidth 32)))) (fun i _=>8-(intOf i).toNat)
   case atStart=>exact ⟨0,oA,rfl,rfl⟩
   case round=>
    obtain ⟨j,S,rfl,rfl⟩:=hrel;by_cases L:j<8
    .generalize hq:Ja j (oW (~~~s) (l.take k)^^^l[k].toBitVec.setWidth 32)=q at*;have F:=Hd hq;clear hq;by_cases A:q&&&1#32=1#32
     .have ht:=JN A;have C:=Hd (Jb q A);clear A;go_wp2_with fail;go_round
      case rel=>exact ⟨j+1,oA,gnA,by rw [Ja,F.out,C.out]⟩
      case measure=>simp [intOf];omega
     .have ht:=MB A;have C:=Hd (Fh q A);clear A;go_wp2_with fail;go_round
      case rel=>exact ⟨j+1,oA,gnA,by rw [Ja,F.out,C.out,MM]⟩
      case measure=>simp [intOf];omega
    .rw [show j=8 by omega];go_wp2_with fail;go_round
     case rel=>exact ⟨k+1,oA,gnA,by rw [<-J.out];rfl⟩
     case measure=>simp [intOf];omega
  .go_wp2_with fail;go_ret;obtain rfl:k=l.length:=oA;exact ⟨by simp [more],rfl⟩
theorem tP (a:Lt) (len cap:Nat) (l:Le) (w:As) (C:aj w a l) (A:l.length=len) (D:len<=maxLen):
  Calls prog 160 #[.int .u32 0,.slice a len cap] w fun e w'=>e= .returned (.int .u32 (U32 (more 0#32 l)))/\w=w':=
 ov 0#32 a len cap l w C A D
theorem xD (a:Lt) (len cap:Nat) (l:Le) (w:As) (C:aj w a l) (A:l.length=len) (D:len<=maxLen):
  Calls prog 161 #[.slice a len cap] w fun e w'=>e= .returned (.int .u32 (U32 (more 0#32 l)))/\Below w.heap.size w w':=by
 have E:=Hd A;clear A;go_enter func161,ntmps161;go_wp2_with fail;refine (tP _ _ _ _ _ C E.out D).mono ?_;rintro e w1 ⟨rfl,rfl⟩;go_wp2_with fail;go_ret;exact ⟨rfl,VW _ _⟩
end
section
def be4 (n:Nat):Le:=[UInt8.ofNat (n/16777216),UInt8.ofNat (n/65536),UInt8.ofNat (n/256),UInt8.ofNat n]
def tR (c0 c1 c2 c3:UInt8):Nat:=c0.toNat*16777216+c1.toNat*65536+c2.toNat*256+c3.toNat
def kC (l:Le):BitVec 32:=more (more 0#32 (be4 l.length)) l
def xZ (l:Le):Le:=be4 l.length++le4 (kC l)
def bo (l:Le):Le:=xZ l++l
theorem sQ (n:Nat):(be4 n).length=4:=rfl
theorem wg (l:Le):(xZ l).length=8:=rfl
theorem bU (l:Le):(bo l).length=8+l.length:=by simp [bo,wg]
theorem tQ (A C c2 D:UInt8):be4 (tR A C c2 D)=[A,C,c2,D]:=by
 have E:A.toNat<256:=A.toBitVec.isLt;have F:C.toNat<256:=C.toBitVec.isLt;have G:c2.toNat<256:=c2.toBitVec.isLt;have H:D.toNat<256:=D.toBitVec.isLt;have e:∀(c:UInt8) (n:Nat),n%256=c.toNat->UInt8.ofNat n=c:=by
  intro c n h;apply UInt8.toNat.inj;rw [ZZ];simpa using h
 unfold be4 tR;rw [e A _ oA,e C _ oA,e c2 _ oA,e D _ oA]
theorem Jl (A C c2 D:UInt8):tR A C c2 D<4294967296:=by
 have E:A.toNat<256:=A.toBitVec.isLt;have F:C.toNat<256:=C.toBitVec.isLt;have G:c2.toNat<256:=c2.toBitVec.isLt;have H:D.toNat<256:=D.toBitVec.isLt;unfold tR;omega
theorem KM {n m:Nat} (A:n<4294967296) (C:m<4294967296) (h:be4 n=be4 m):n=m:=by
 unfold be4 at h;simp only [Wy,ZA] at h;obtain ⟨a,b,c,d⟩:=h;have f:∀x y,UInt8.ofNat x=UInt8.ofNat y->x%256=y%256:=by
  intro x y e;have:=WS UInt8.toNat e;simpa using this
 have a:=f _ _ a;have b:=f _ _ b;have c:=f _ _ c;have d:=f _ _ d;omega
def fB (b:Le):Nat:=tR (b.getD 0 0) (b.getD 1 0) (b.getD 2 0) (b.getD 3 0)
def gw (b:Le):Le:=(b.drop 8).take (fB b)
def je (b:Le):Bool:=decide (8<b.length)&&decide (1<=fB b)&&decide (fB b<=65536)&&decide (fB b<=b.length-8)&&(b.take 8==xZ (gw b))
def scan:Nat->Le->List Le×Le
 |0,b=>([],b)
 |f+1,b=>if je b then (gw b::(scan f (b.drop (8+fB b))).1,(scan f (b.drop (8+fB b))).2) else ([],b)
theorem jK {f:Nat} {b:Le} (h:je b=true):scan (f+1) b=(gw b::(scan f (b.drop (8+fB b))).1,(scan f (b.drop (8+fB b))).2):=by simp [scan,h]
theorem ip {f:Nat} {b:Le} (h:je b=false):scan f b=([],b):=by cases f<;>simp [scan,h]
theorem jd {b:Le} (h:b.length<=8):je b=false:=by
 unfold je;rw [VO oA];rfl
theorem um {b:Le} (h:fB b<=b.length-8):(gw b).length=fB b:=by
 unfold gw;rw [ltA,ldA];omega
theorem tG {b:Le} (A:8<b.length) (C:1<=fB b) (D:fB b<=65536) (E:fB b<=b.length-8):je b=(b.take 8==xZ (gw b)):=by
 unfold je;rw [VK A,VK C,VK D,VK E];rfl
theorem yW {b:Le} (h:¬(1<=fB b/\fB b<=65536/\fB b<=b.length-8)):je b=false:=by
 unfold je;rw [<-Bool.not_eq_true];simp only [Vh,XX];omega
theorem qf (f:Nat) (b:Le):(scan f b).2.length<=b.length:=by
 induction f generalizing b with
 |zero=>simp [scan]
 |succ f ih=>
  by_cases h:je b=true
  .rw [jK h];have:=ih (b.drop (8+fB b));rw [ldA] at this;show (scan f (b.drop (8+fB b))).2.length<=_;omega
  .rw [ip (by simpa using h)];exact VU _
theorem nI (f:Nat) (b:Le):(scan f b).1.length<=f:=by
 induction f generalizing b with
 |zero=>simp [scan]
 |succ f ih=>
  by_cases h:je b=true
  .rw [jK h];have:=ih (b.drop (8+fB b));simp only [VC];omega
  .rw [ip (by simpa using h)];simp
theorem xu (A C c2 D d0 d1 d2 d3:UInt8) (m:Le) (E:m≠ []) (F:1<=tR A C c2 D) (G:tR A C c2 D<=65536) (I:tR A C c2 D<=m.length):
  je (A::C::c2::D::d0::d1::d2::d3::m)=([d0,d1,d2,d3]==le4 (kC (m.take (tR A C c2 D)))):=by
 have H:(m.take (tR A C c2 D)).length=tR A C c2 D:=(by rw [ltA];omega);have J:0<m.length:=XB.2 E;have e:fB (A::C::c2::D::d0::d1::d2::d3::m)=tR A C c2 D:=rfl;rw [tG (by simp only [VC];omega) (by rw [e];exact F) (by rw [e];exact G) (by rw [e];simp only [VC];omega)];show ([A,C,c2,D,d0,d1,d2,d3]==be4 (m.take (tR A C c2 D)).length++le4 (kC (m.take (tR A C c2 D))))=_;rw [H,tQ];simp
theorem CI (A C c2 D:UInt8) (l:Le) (h:l.length=tR A C c2 D):more (more 0#32 [A,C,c2,D]) l=kC l:=by
 unfold kC;rw [h,tQ]
theorem iq {ju f:Nat} {b r:Le} {done:List Le} (h:scan ju b=(done++(scan f r).1,(scan f r).2)) (A:f=0\/je r=false):scan ju b=(done,r):=by
 have:scan f r=([],r):=by
  rcases A with rfl|A
  .rfl
  .exact ip A
 rw [h,this];simp
theorem vj {ju f:Nat} {b r:Le} {done:List Le} (h:scan ju b=(done++(scan (f+1) r).1,(scan (f+1) r).2)) (A:je r=true):
  scan ju b=((done++ [gw r])++(scan f (r.drop (8+fB r))).1,(scan f (r.drop (8+fB r))).2):=by
 rw [h,jK A];simp
theorem MU {r:Le} (h:8<r.length):∃A C c2 D d0 d1 d2 d3 m,r=A::C::c2::D::d0::d1::d2::d3::m/\m≠ []:=by
 match r,h with
 |A::C::c2::D::d0::d1::d2::d3::x::m,_=>exact ⟨A,C,c2,D,d0,d1,d2,d3,x::m,rfl,skA⟩
theorem ir (l m:Le) (h:l.length<4294967296):fB (bo l++m)=l.length:=by
 have e:be4 (fB (bo l++m))=be4 l.length:=by
  unfold fB;rw [tQ];rfl
 exact KM (Jl _ _ _ _) h e
theorem yi (l m:Le):(bo l++m).drop 8=l++m:=rfl
theorem xq (l m:Le):(bo l++m).take 8=xZ l:=rfl
theorem mW (l m:Le) (h:l.length<4294967296):gw (bo l++m)=l:=by
 unfold gw;rw [ir l m h,yi,Yq]
theorem vi (l m:Le) (A:1<=l.length) (C:l.length<=65536):je (bo l++m)=true:=by
 rw [tG,mW l m oA,xq,BEq.rfl]
 .rw [laA,bU];omega
 .rw [ir l m oA];exact A
 .rw [ir l m oA];exact C
 .rw [ir l m oA,laA,bU];omega
theorem xv (f:Nat) (l m:Le) (A:1<=l.length) (C:l.length<=65536):scan (f+1) (bo l++m)=(l::(scan f m).1,(scan f m).2):=by
 rw [jK (vi l m A C),mW l m oA,ir l m oA];have e:(bo l++m).drop (8+l.length)=m:=(by rw [<-bU,Yh]);rw [e]
def aA (ls:List Le):Le:=(ls.map bo).flatten
theorem vw (l:Le) (ls:List Le):aA (l::ls)=bo l++aA ls:=by simp [aA]
theorem ow (l:Le) (ls:List Le):aA (ls++ [l])=aA ls++bo l:=by simp [aA]
def Lv (ls:List Le):Prop:=∀l∈ls,1<=l.length/\l.length<=65536
theorem oo (f:Nat) (ls:List Le) (m:Le) (h:Lv ls) (A:ls.length<=f):scan f (aA ls++m)=(ls++(scan (f-ls.length) m).1,(scan (f-ls.length) m).2):=by
 induction ls generalizing f with
 |nil=>simp [aA]
 |cons l ls ih=>
  obtain ⟨C,D⟩:=h l List.mem_cons_self;cases f with
  |zero=>simp at A
  |succ f=>
   rw [vw,Vf,xv f l _ C D,ih f (fun x hx=>h x (List.mem_cons_of_mem _ hx)) (by simpa using A)];simp only [VC,Nat.add_sub_add_right,Xf]
end
section
open Go.RowKit
theorem jU (a:Lt) (len cap:Nat) (l:Le) (w:As) (D:aj w a l) (A:l.length=len) (M:len<=140737488351232):
  Calls prog 48 #[.slice a len cap] w fun e w'=>∃a' c',e= .returned (.slice a' len c')/\Own w' w.heap.size 5 1 a' len c' (l.map bv)/\Below w.heap.size w w':=by
 have E:=Hd A;clear A;have q:∀(w:As) (a:Lt) (n c n' c':Nat),(binOp .eql 22 (.slice a n c) (.slice none n' c')).run prog w= .ok (.bool a.isNone) w:=fun w a n c n' c'=>YA w _ _ a n c n' c' underlying22;cases a with
 |none=>
  have H:l=[]:=by
   refine VX (Xn fun h=> ?_);obtain ⟨_,_,e,_⟩:=D 0 (by simpa using h);cases e
  subst H;have F:len=0:=E.out.symm;go_enter func48,ntmps48;go_wp2_with fail;go_ret;exact ⟨none,0,by rw [F];rfl,by rw [F];exact Own.nil _ _ _ _,VW _ _⟩
 |some x=>
  go_enter func48,ntmps48;have C:Own (w.alloc (.cells #[] 5)) w.heap.size 5 1 (some ⟨w.heap.size,0,none⟩) 0 0 []:=Own.lit _ _ _ rfl rfl (VU _) mxA;go_wp2_with (at_builtin;refine al rfl _ _ 22 rfl oG rfl C rfl (D.alloc _) (by rw [lmA,E.out,Vr]) (cV _) mxA oA skA ?_);intro J L w1 G I;go_wp2_with fail;go_ret;refine ⟨J,L,?_,?_,C.grown ((VW _ _).alloc (VU _) _) (VU _) I skA⟩
  .first|rfl|simp
  .simpa using G
theorem GK (n k:Nat):((n:Int)/(k:Int))%256=U8 (UInt8.ofNat (n/k)):=by
 simp [U8]
theorem Ju {w:As} {B:Nat} (n:Nat) (A:B<=w.heap.size):
  Own (w.alloc (.cells #[.int .u8 ((n:Int)/16777216%256),.int .u8 ((n:Int)/65536%256),.int .u8 ((n:Int)/256%256),.int .u8 ((n:Int)%256)] 5)) B 5 1 (some ⟨w.heap.size,0,none⟩) 4 4 ((be4 n).map bv):=by
 refine Own.lit _ _ _ ?_ rfl A mxA;have h:=GK n;have C:(n:Int)%256=U8 (UInt8.ofNat n):=(by simp [U8]);have a:=h 16777216;have b:=h 65536;have c:=h 256;simp only [be4,WG,XP,bv];rw [<-a,<-b,<-c,<-C];rfl
theorem zr {w:As} {B:Nat} (n:Nat) (h:n<=65536) (A:B<=w.heap.size):
  Own (w.alloc (.cells #[.int .u8 ((n:Int)/16777216),.int .u8 ((n:Int)/65536),.int .u8 ((n:Int)/256%256),.int .u8 ((n:Int)%256)] 5)) B 5 1 (some ⟨w.heap.size,0,none⟩) 4 4 ((be4 n).map bv):=by
 have a:(n:Int)/16777216=(n:Int)/16777216%256:=oA;have b:(n:Int)/65536=(n:Int)/65536%256:=oA;rw [a,b];exact Ju n A
theorem Ay (a:Lt) (len cap:Nat) (l:Le) (w:As) (M:aj w a l) (H:l.length=len) (b:1<=len) (V:len<=65536):
  Calls prog 115 #[.slice a len cap] w fun e w'=>∃a' c',e= .returned (.tuple #[.slice a' (8+len) c',.int .i64 0])/\Own w' w.heap.size 5 1 a' (8+len) c' ((bo l).map bv)/\Below w.heap.size w w':=by
 have C:=Hd H;clear H;have t1:decide ((len:Int)=0)=false:=soA;have Z:((len:Int)==0)=false:=soA;have t2:decide ((65536:Int)<(len:Int))=false:=soA;go_enter func115,ntmps115;go_wp2_with fail;have I:=zr (w:=w) (B:=w.heap.size) len V (VU _);refine (Ci _ _ _ _ _ I.row (sQ _) mxA).mono ?_;rintro e w1 ⟨rfl,N⟩;have J:Below w.heap.size w w1:=aa ((VW _ w).alloc (VU _) _) N;go_wp2_with fail;refine (uj _ _ _ _ l _ (M.below J) C.out mxA).mono ?_;rintro e E ⟨rfl,L⟩;have D:=aa J L;have W:=Hd (show more (more 0#32 (be4 len)) l=kC l by unfold kC;rw [C.out]);rw [W.out];have F:=(I.old N).old L;have O:=CY (w:=E) (B:=E.heap.size) (kC l) (VU _);go_wp2_with (at_builtin;refine al rfl _ _ 22 rfl oG rfl (F.alloc _) rfl O.row rfA (cV _) mxA oA (by simp;exact YW D.size) ?_);intro f g j G S;have A:=(F.alloc _).grown (aa D ((VW _ E).alloc (VU _) _)) (VU _) S (by simp;exact YW D.size);go_wp2_with (at_builtin;refine al rfl _ _ 22 rfl oG rfl G rfl (M.below A) (by rw [lmA,C.out,Vr]) (cV _) mxA oA A.size ?_);intro X Y m P U;go_wp2_with fail;go_ret2;refine ⟨X,Y,rfl,?_,G.grown A (VU _) U A.size⟩;simpa [bo,xZ,C.out] using P
theorem xE (a:Lt) (cap:Nat) (w:As):
  Calls prog 115 #[.slice a 0 cap] w fun e w'=>e= .returned (.tuple #[.slice none 0 0,.int .i64 2])/\w'=w:=by
 go_enter func115,ntmps115;go_wp2_with fail;go_ret2;exact ⟨rfl,rfl⟩
theorem xF (a:Lt) (len cap:Nat) (w:As) (h:65536<len):
  Calls prog 115 #[.slice a len cap] w fun e w'=>e= .returned (.tuple #[.slice none 0 0,.int .i64 3])/\w'=w:=by
 have t1:((len:Int)==0)=false:=soA;have t2:decide ((65536:Int)<(len:Int))=true:=soA;go_enter func115,ntmps115;go_wp2_with fail;go_ret2;exact ⟨rfl,rfl⟩
theorem CZ (x y k:Nat) (A:y<2^k) (h:x*2^k+y<9223372036854775808):bits .or .i64 ((x*2^k:Nat):Int) ((y:Nat):Int)=((x*2^k+y:Nat):Int):=by
 have hx:x*2^k<9223372036854775808:=oA;have C:y<9223372036854775808:=oA;have e:(BitVec.ofInt 64 ((x*2^k:Nat):Int)|||BitVec.ofInt 64 ((y:Nat):Int)).toNat=x*2^k+y:=by
  rw [BitVec.toNat_or,XU,XU];rw [show (((x*2^k:Nat):Int)%((2^64:Nat):Int)).toNat=x*2^k by omega,show (((y:Nat):Int)%((2^64:Nat):Int)).toNat=y by omega];rw [Wr x,<-Nat.two_pow_add_eq_or_of_lt A]
 show IntKind.i64.wrap (((BitVec.ofInt 64 ((x*2^k:Nat):Int)|||BitVec.ofInt 64 ((y:Nat):Int)).toNat:Nat):Int)=_;rw [e,VD _ oA]
theorem orBE (A C c2 D:UInt8):bits .or .i64 (bits .or .i64 (bits .or .i64 (wrap64 (wrap64 (U8 A)*16777216)) (wrap64 (wrap64 (U8 C)*65536))) (wrap64 (wrap64 (U8 c2)*256))) (wrap64 (U8 D))=(tR A C c2 D:Int):=by
 have G:A.toNat<256:=A.toBitVec.isLt;have H:C.toNat<256:=C.toBitVec.isLt;have I:c2.toNat<256:=c2.toBitVec.isLt;have J:D.toNat<256:=D.toBitVec.isLt;have w0:∀c:UInt8,wrap64 (U8 c)=U8 c:=fun c=>Yk _ ⟨by have:=BA c;omega,by have:=yA c;omega⟩;have w1:∀(c:UInt8) (k:Int),0<=k->k<=16777216->wrap64 (U8 c*k)=U8 c*k:=by
  intro c k E F;have a:=BA c;have b:=yA c;have L:0<=U8 c*k:=Int.mul_nonneg a E;have M:U8 c*k<=256*16777216:=Int.mul_le_mul oA F E oA;exact Yk _ ⟨oA,oA⟩
 rw [w0,w0,w0,w0,w1 _ _ oA oA,w1 _ _ oA oA,w1 _ _ oA oA];have a:U8 A*16777216=((A.toNat*2^24:Nat):Int):=(by simp [U8]);have b:U8 C*65536=((C.toNat*2^16:Nat):Int):=(by simp [U8]);have c:U8 c2*256=((c2.toNat*2^8:Nat):Int):=(by simp [U8]);have d:U8 D=((D.toNat:Nat):Int):=rfl;rw [a,b,c,d,CZ _ _ 24 oA oA,show A.toNat*2^24+C.toNat*2^16=(A.toNat*256+C.toNat)*2^16 by omega,CZ _ _ 16 oA oA,
  show (A.toNat*256+C.toNat)*2^16+c2.toNat*2^8=((A.toNat*256+C.toNat)*256+c2.toNat)*2^8 by omega,CZ _ _ 8 oA oA]
 unfold tR;omega
theorem Gq (n:Nat) (w:As) (h:n<=65536):
  Calls prog 159 #[.int .i64 (n:Int)] w fun e w'=>∃a',e= .returned (.slice a' 4 4)/\Own w' w.heap.size 5 1 a' 4 4 ((be4 n).map bv)/\Below w.heap.size w w':=by
 go_enter func159,ntmps159;go_wp2_with fail;go_ret;exact ⟨_,rfl,zr n h (VU _),(VW _ _).alloc (VU _) _⟩
theorem lP (a:Lt) (len cap:Nat) (l:Le) (w:As) (M:aj w a l) (I:l.length=len) (b:1<=len) (W:len<=65536):
  Calls prog 134 #[.slice a len cap] w fun e w'=>∃a' c',e= .returned (.tuple #[.slice a' (8+len) c',.int .i64 0])/\Own w' w.heap.size 5 1 a' (8+len) c' ((bo l).map bv)/\Below w.heap.size w w':=by
 have D:=Hd I;clear I;have t1:((len:Int)==0)=false:=soA;have t2:decide ((65536:Int)<(len:Int))=false:=soA;go_enter func134,ntmps134;go_wp2_with fail;refine (Gq len _ W).mono ?_;rintro e w0 ⟨f,rfl,J,S⟩;go_wp2_with fail;refine (xD _ _ _ _ _ J.row (sQ _) mxA).mono ?_;rintro e w1 ⟨rfl,N⟩;have L:Below w.heap.size w w1:=aa S N;go_wp2_with fail;refine (ov _ _ _ _ l _ (M.below L) D.out mxA).mono ?_;rintro e E ⟨rfl,A⟩;have A:Below w1.heap.size w1 E:=A▸VW _ _;have F:=aa L A;have X:=Hd (show more (more 0#32 (be4 len)) l=kC l by unfold kC;rw [D.out]);rw [X.out];have G:=(J.old N).old A;have O:=CY (w:=E) (B:=E.heap.size) (kC l) (VU _);go_wp2_with (at_builtin;refine al rfl _ _ 22 rfl oG rfl (G.alloc _) rfl O.row rfA (cV _) mxA oA (by simp;exact YW F.size) ?_);intro g j m H U;have C:=(G.alloc _).grown (aa F ((VW _ E).alloc (VU _) _)) (VU _) U (by simp;exact YW F.size);go_wp2_with (at_builtin;refine al rfl _ _ 22 rfl oG rfl H rfl (M.below C) (by rw [lmA,D.out,Vr]) (cV _) mxA oA C.size ?_);intro Y Z o P V;go_wp2_with fail;go_ret2;refine ⟨Y,Z,rfl,?_,H.grown C (VU _) V C.size⟩;simpa [bo,xZ,D.out] using P
theorem qo (a:Lt) (cap:Nat) (w:As):
  Calls prog 134 #[.slice a 0 cap] w fun e w'=>e= .returned (.tuple #[.slice none 0 0,.int .i64 2])/\w'=w:=by
 go_enter func134,ntmps134;go_wp2_with fail;go_ret2;exact ⟨rfl,rfl⟩
theorem qp (a:Lt) (len cap:Nat) (w:As) (h:65536<len):
  Calls prog 134 #[.slice a len cap] w fun e w'=>e= .returned (.tuple #[.slice none 0 0,.int .i64 3])/\w'=w:=by
 have t1:((len:Int)==0)=false:=soA;have t2:decide ((65536:Int)<(len:Int))=true:=soA;go_enter func134,ntmps134;go_wp2_with fail;go_ret2;exact ⟨rfl,rfl⟩
end
section
open Go.RowKit Go.Maps Go.Shelf
theorem AA (args:AS) (w:As):(callFunc 59 args).run prog w= .ok (.enter 59 args) w:=enters_of func59 krA rfl args w
theorem Ef (args:AS) (w:As):(callFunc 104 args).run prog w= .ok (.enter 104 args) w:=enters_of func104 krA rfl args w
def rl (w:As) (r:aG) (nm:bB) (bx:Nat) (v:Int) (w':As):Prop:=
 v=(bN r.p nm).2/\∃a n c,Blk w' bx #[.slice a n c] 22/\(bN r.p nm).1.length=n/\Own w' w.heap.size 5 1 a n c ((bN r.p nm).1.map bv)/\Below w.heap.size w w'
theorem CM (w:As) (B:Nat) (r:aG) (f:ct) (h:aK w B r) (I:r.down=false) (C:f∈r.fs) (w0:As) (bx:Nat) (cs:AS) (J:Blk w bx #[.slice none 0 0] 22) (D:Below w0.heap.size w0 w) (G:w0.heap.size<=bx):
  Calls prog 59 #[.pointer (some ⟨f.blk,0,none⟩),.pointer (some ⟨bx,0,none⟩)] w fun e w'=>∃v,e= .returned (.int .i64 v)/\rl w0 r f.nm bx v w':=by
 have L:=Hd (show bN r.p f.nm=(f.b,0) by
  unfold bN;rw [pr h C];simp [aG.p,I,ct.p])
 have E:=h.files f C;have N:f.b.length<=1048576:=h.ok.size f.p (VH.2 ⟨f,C,rfl⟩);have M:=E.blk.rule;go_enter func59,ntmps59;go_wp2_with fail;refine (jU f.a f.b.length f.c f.b w E.row.read rfl oA).mono ?_;rintro e w1 ⟨a',c',rfl,H,F⟩;have A:=J.old F;have O:=A.rule;have c2:=A.free;clear M;go_wp2_with fail;go_ret;refine ⟨0,rfl,?_⟩;unfold rl;rw [L.out];refine ⟨rfl,a',f.b.length,c',A.set 0 _,rfl,?_,?_⟩
 .exact (H.lower D.size).setCell_apart A dcA 0 _
 .exact (aa D F).setCell G _
theorem zj (w:As) (B:Nat) (r:aG) (nm:bB) (h:aK w B r) (H:nm.size<=maxLen):
  Calls prog 14 #[.pointer (some ⟨r.d,0,none⟩),.string nm] w fun e w'=>∃a n c,e= .returned (.tuple #[.slice a n c,.int .i64 (bN r.p nm).2])/\(bN r.p nm).1.length=n/\Own w' w.heap.size 5 1 a n c ((bN r.p nm).1.map bv)/\Below w.heap.size w w':=by
 have L:∀(fn:Fn) (first cap:AS) (w:As),(Instr.makeFunc fn first cap).run prog w= .ok (.func fn first cap) w:=fun _ _ _ _=>rfl;have A:Below w.heap.size w (w.alloc (.cells #[.slice none 0 0] 22)):=(VW _ _).alloc (VU _) _;have F:=h.old A;have D:=Blk.new w #[.slice none 0 0] 22;go_enter func14,ntmps14;go_wp2_with fail;refine (ul F H 59 _ AA (rl w r nm w.heap.size) ?_ ?_ ?_).mono ?_
 .intro hdn;have e:bN r.p nm=([],5):=(by simp [bN,aG.p,hdn]);unfold rl;rw [e];exact ⟨rfl,none,0,0,D,rfl,Own.nil _ _ _ _,A⟩
 .intro hdn hno;have e:bN r.p nm=([],4):=(by unfold bN;rw [pt hno];simp [aG.p,hdn]);unfold rl;rw [e];exact ⟨rfl,none,0,0,D,rfl,Own.nil _ _ _ _,A⟩
 .intro f hf E hdn;subst E;exact CM _ B r f F hdn hf w _ #[] D A (VU _)
 .rintro e w1 ⟨v,rfl,M,a,n,c,C,E,G,I⟩;have N:=C.rule;have O:=C.free;go_wp2_with fail;have J:=(C.set 0 (.slice a n c)).rule 0;refine YO (v:= .tuple #[.slice a n c,.int .i64 (bN r.p nm).2]) ?_ rfl ?_
  .simp [results,Tryz.f14,go_sem,J]
  .exact ⟨a,n,c,rfl,E,G.setCell_apart C dcA 0 _,I.setCell (VU _) _⟩
theorem Ak {w w':As} {B:Nat} {r:aG} {f:ct} (h:aK w B r) (E:f∈r.fs) {k s:Nat} (O:k<=f.b.length) (U:s<=k) (M:Blk w' f.blk #[.slice f.a k f.c,.int .i64 (s:Int)] 112) (J:aJ (fun x=>x=f.blk) w w'):
  bL B w r w' {r with fs:=oK r.fs f.nm fun g=>{g with b:=g.b.take k,sure:=s}}:=by
 have D:=h.files f E;have I:∀g∈r.fs,g.nm=f.nm->g=f:=fun g A e=>h.same A E e;have F:∀x,x≠f.blk->x<w.heap.size->w'.heap[x]? =w.heap[x]? :=fun x P S=>J.block x S P;refine ⟨J.mono (fun x hx=>by subst hx;exact .inr (.inr (.inl ⟨f,E,.inl rfl⟩))),?_,?_,rfl⟩
 .refine h.upd f.nm (fun g=>{g with b:=g.b.take k,sure:=s}) (fun _ _=>⟨rfl,rfl⟩) (F _ (Vl (h.ne_file E)) h.blk.lt) (F _ (Vl (h.ne_map D.blk)) h.map.lt) (fun x hx=>F _ (h.ne_plan hx D.blk dcA) (h.plan.block_lt hx).2.1) ?_ ?_ ?_ ?_
  .intro g A C;exact ⟨F _ (Vl (h.apart' E A (Vl C)).1) (h.files g A).blk.lt,fun x hx=>F _ (h.ne_row A hx D.blk dcA) ((h.files g A).row.lt hx).2.1⟩
  .intro g A C;obtain rfl:=I g A C;have L:(g.b.take k).length=k:=(by rw [ltA];omega);refine ⟨?_,D.ge,?_⟩
   .show Blk w' g.blk #[.slice g.a (g.b.take k).length g.c,.int .i64 (s:Int)] _;rw [L];exact M
   .show Mid w' B 5 g.a (g.b.take k).length g.c ((g.b.take k).map bv);rw [L,WB];exact (D.row.take (k:=k) O).keep fun x hx=>F _ (h.ne_row E hx D.blk dcA) (D.row.lt hx).2.1
  .intro g A C g2 hg2 hgn2 x hx;obtain rfl:=I g A C;exact (h.apart' E hg2 (Vl hgn2)).2 x hx
  .have hp5:aG.p {r with fs:=oK r.fs f.nm fun g=>{g with b:=g.b.take k,sure:=s}}=kF r.p f.nm (fun g=>{g with b:=g.b.take k,sure:=s}):=by
    simp only [aG.p,kF];rw [pS _ _ _ (fun g=>{g with b:=g.b.take k,sure:=s}) (fun _ _ _=>rfl)]
   show dY (aG.p {r with fs:=oK r.fs f.nm fun g=>{g with b:=g.b.take k,sure:=s}});rw [hp5];refine h.ok.upd f.nm _ (fun _ _=>rfl) (fun g A C=> ?_) (fun g A C=> ?_)
   .obtain ⟨H,G,rfl⟩:=VH.1 A;obtain rfl:=I H G C;show s<=(H.b.take k).length;rw [ltA];omega
   .have:=h.ok.size g A;show (g.b.take k).length<=fE;rw [ltA];omega
 .rintro x (hx|hx|⟨g,N,hx⟩|hx)
  .exact .inl (.inl hx)
  .exact .inl (.inr (.inl hx))
  .obtain ⟨H,G,⟨e,rfl⟩|⟨e,rfl⟩⟩:=oZ N
   .exact .inl (.inr (.inr (.inl ⟨H,G,hx⟩)))
   .exact .inl (.inr (.inr (.inl ⟨_,G,hx⟩)))
  .exact .inl (.inr (.inr (.inr hx)))
theorem jy {P:Program} {l:List Oper} {Q:Exit->Act->World->Prop} {R:World->World->Prop} {i:Nat} {o:Oper} {p:rz} {rest:List (Nat×rz)} {a:Act} {w:As} (A:iw l i=some o) (D:pp o=true) (E:Region.wanted o (yielded l.toArray a.tmps)=true)
  (h:∀K:Act->World->Prop,(∀a' w',dk true P l.toArray Q R p a' w'->K a' w')->o.wp P a w K Q) (C:jH true P l.toArray Q R rest a w):jH true P l.toArray Q R ((i,p)::rest) a w:=by
 rw [fD] at A;simp only [jH,A,E,YV];exact ⟨h _ (fun a' w' C=>⟨.inl (by simp [ol,wY,A,D]),C⟩),C⟩
def oI (B:Nat) (w:As) (r:aG) (nm:bB) (n:Int) (v:Int) (w':As):Prop:=v=(jF r.p nm n).2/\∃r',r'.p=(jF r.p nm n).1/\bL B w r w' r'
theorem GC (w:As) (B:Nat) (r:aG) (f:ct) (h:aK w B r) (J:r.down=false) (G:f∈r.fs) (bn:Nat) (n:Int) (E:Blk w bn #[.int .i64 n] 3):
  Calls prog 104 #[.pointer (some ⟨f.blk,0,none⟩),.pointer (some ⟨bn,0,none⟩)] w fun e w'=>∃v,e= .returned (.int .i64 v)/\oI B w r f.nm n v w':=by
 have O:=Hd J;clear J;have P:=Hd (pr h G);have C:=h.files f G;have X:f.b.length<=1048576:=h.ok.size f.p (VH.2 ⟨f,G,rfl⟩);have L1:∀W,Old w.drew W->W.cell? ⟨bn,0,none⟩=some (.int .i64 n):=fun W D=>(by rw [(D:Below w.heap.size w.drew W).cell E.lt];exact E.rule 0);have L2:∀W,Old w.drew W->W.cell? ⟨f.blk,0,none⟩=some (.slice f.a f.b.length f.c):=fun W D=>(by rw [(D:Below w.heap.size w.drew W).cell C.blk.lt];exact C.blk.rule 0);have I:=Hd (show jF r.p f.nm n=if n<0\/(f.b.length:Int)<n then (r.p,2) else (kF r.p f.nm fun f=>{f with b:=f.b.take n.toNat,sure:=n.toNat},0) by
  unfold jF mp;rw [P.out];simp [aG.p,O.out,ct.p])
 by_cases M:n<0
 .have t0:decide (n<0)=true:=(by simp [M]);go_enter func104,ntmps104;go_wp2_with fail;refine aB (0::1::2::3::4::5::6::7::8::9::10::[]) krA krA cdA ?_
  repeat refine lxA ?_
  refine bJ ?_;go_wp2_with fail;go_ret;refine ⟨2,rfl,?_⟩;unfold oI;rw [I.out,Vz (.inl M)];exact ⟨rfl,r,rfl,bL.quiet h (VW _ _).drew⟩
 .have t0:decide (n<0)=false:=soA;by_cases N:(f.b.length:Int)<n
  .have t1:decide ((f.b.length:Int)<n)=true:=(by simp [N]);go_enter func104,ntmps104;go_wp2_with fail;refine aB (0::1::2::3::4::5::6::7::8::9::10::[]) krA krA cdA ?_
   repeat refine lxA ?_
   refine bJ ?_;go_wp2_with fail;go_ret;refine ⟨2,rfl,?_⟩;unfold oI;rw [I.out,Vz (.inr N)];exact ⟨rfl,r,rfl,bL.quiet h (VW _ _).drew⟩
  .have t1:decide ((f.b.length:Int)<n)=false:=soA;obtain ⟨k,rfl⟩:∃k:Nat,n=k:=⟨n.toNat,oA⟩;have S:k<=f.b.length:=oA;have Y:(k:Int)<=(f.c:Int):=(by have:=C.row.le;omega);go_enter func104,ntmps104;go_wp2_with fail;refine aB (0::1::2::3::4::5::6::7::8::9::10::[]) krA krA cdA ?_
   repeat refine lxA ?_
   refine bJ ?_;go_wp2_with fail;clear L1 L2 t0 t1;have U:bn≠f.blk:=Blk.ne E C.blk dcA;have L1:∀W,Old w.drew.drew W->W.cell? ⟨bn,0,none⟩=some (.int .i64 (k:Int)):=fun W D=>(by rw [(D:Below w.heap.size w.drew.drew W).cell E.lt];exact E.rule 0);have L2:∀W,Old w.drew.drew W->W.cell? ⟨f.blk,0,none⟩=some (.slice f.a f.b.length f.c):=fun W D=>(by rw [(D:Below w.heap.size w.drew.drew W).cell C.blk.lt];exact C.blk.rule 0);have Z:=C.blk.rule;have j:=C.blk.free;have L:=C.blk.set 0 (.slice f.a k f.c);have H:=E.other ⟨f.blk,0,none⟩ (.slice f.a k f.c) U;have c2:=L.rule;have l:=L.free;have m:=H.rule;have o:=E.rule;refine ah true Old Old.refl Old.trans (.step 0 (.step 2 (.step 3 (.step 4 (.step 5 (.step 6 (.step 7 (.step 9 (.step 10 (.fork [(1,(.fork [(8,(.step 11 (.step 12 (.step 13 (.step 14 .done))))),(11,(.step 8 (.step 12 (.step 13 (.step 14 .done)))))])),(8,(.fork [(1,(.step 11 (.step 12 (.step 13 (.step 14 .done))))),(11,(.step 1 (.step 12 (.step 13 (.step 14 .done)))))])),(11,(.step 1 (.step 8 (.step 12 (.step 13 (.step 14 .done))))))])))))))))) krA krA cdA ?_
   repeat refine txA ?_
   have q:∀W,Old (w.setCell ⟨f.blk,0,none⟩ (.slice f.a k f.c)).drew.drew W->W.cell? ⟨bn,0,none⟩=some (.int .i64 (k:Int)):=fun W D=>(by rw [(D:Below _ _ W).cell H.lt];exact H.rule 0);have V:Blk ((w.setCell ⟨f.blk,0,none⟩ (.slice f.a k f.c)).setCell ⟨f.blk,1,none⟩ (.int .i64 (k:Int))).drew.drew f.blk #[.slice f.a k f.c,.int .i64 (k:Int)] 112:=(C.blk.set 0 _).set 1 _;have F:oI B w r f.nm (k:Int) 0 ((w.setCell ⟨f.blk,0,none⟩ (.slice f.a k f.c)).setCell ⟨f.blk,1,none⟩ (.int .i64 (k:Int))).drew.drew:=by
    unfold oI;rw [I.out,VV oA];refine ⟨rfl,_,?_,Ak h G S (VU _) V ?_⟩
    .simp only [aG.p,kF];rw [pS _ _ _ (fun g=>{g with b:=g.b.take k,sure:=k}) (fun _ _ _=>rfl)];rfl
    .exact (((aJ.refl (fun x=>x=f.blk) w).setCell (x:=⟨f.blk,0,none⟩) (.inl rfl) _).setCell (x:=⟨f.blk,1,none⟩) (.inl rfl) _).drew.drew
   refine kT ?_;refine js rfl rfA (fun K A=> ?_) ?_
   .go_wp2_with fail;refine A _ _ (Old.refl _) ?_;clear A K;refine kT ?_;refine js rfl rfA (fun K A=> ?_) ?_
    .go_wp2_with fail;refine A _ _ (Old.refl _) ?_;clear A K;refine az rfl rfl rfA (fun K A=> ?_);go_wp2_with fail
     repeat refine txA ?_
     refine az rfl rfl rfA (fun K A=> ?_);go_wp2_with fail;refine aq ?_;go_wp2_with fail;go_ret;exact ⟨0,rfl,F⟩
    .refine jy rfl rfl rfA (fun K A=> ?_) ?_
     .go_wp2_with fail
      repeat refine txA ?_
      refine az rfl rfl rfA (fun K A=> ?_);go_wp2_with fail;refine aq ?_;go_wp2_with fail;go_ret;exact ⟨0,rfl,F⟩
     .exact mK
   .refine js rfl rfA (fun K A=> ?_) ?_
    .go_wp2_with fail;refine A _ _ (Old.refl _) ?_;clear A K;refine kT ?_;refine js rfl rfA (fun K A=> ?_) ?_
     .go_wp2_with fail;refine A _ _ (Old.refl _) ?_;clear A K;refine az rfl rfl rfA (fun K A=> ?_);go_wp2_with fail
      repeat refine txA ?_
      refine az rfl rfl rfA (fun K A=> ?_);go_wp2_with fail;refine aq ?_;go_wp2_with fail;go_ret;exact ⟨0,rfl,F⟩
     .refine jy rfl rfl rfA (fun K A=> ?_) ?_
      .go_wp2_with fail
       repeat refine txA ?_
       refine az rfl rfl rfA (fun K A=> ?_);go_wp2_with fail;refine aq ?_;go_wp2_with fail;go_ret;exact ⟨0,rfl,F⟩
      .exact mK
    .refine jy rfl rfl rfA (fun K A=> ?_) ?_
     .go_wp2_with fail
      repeat refine txA ?_
      refine az rfl rfl rfA (fun K A=> ?_);go_wp2_with fail;refine aq ?_;go_wp2_with fail;go_ret;exact ⟨0,rfl,F⟩
     .exact mK
theorem yk (w:As) (B:Nat) (r:aG) (nm:bB) (n:Int) (h:aK w B r) (G:nm.size<=maxLen):
  Calls prog 43 #[.pointer (some ⟨r.d,0,none⟩),.string nm,.int .i64 n] w fun e w'=>e= .returned (.int .i64 (jF r.p nm n).2)/\∃r',r'.p=(jF r.p nm n).1/\bL B w r w' r':=by
 have H:∀(fn:Fn) (first cap:AS) (w:As),(Instr.makeFunc fn first cap).run prog w= .ok (.func fn first cap) w:=fun _ _ _ _=>rfl;have A:Below w.heap.size w (w.alloc (.cells #[.int .i64 n] 3)):=(VW _ _).alloc (VU _) _;have F:=h.old A;go_enter func43,ntmps43;go_wp2_with fail;refine (ul F G 104 _ Ef (oI B w r nm n) ?_ ?_ ?_).mono ?_
 .intro hdn;have e:jF r.p nm n=(r.p,5):=(by simp [jF,mp,aG.p,hdn]);unfold oI;rw [e];exact ⟨rfl,r,rfl,bL.quiet h A⟩
 .intro hdn hno;have e:jF r.p nm n=(r.p,4):=(by unfold jF mp;rw [pt hno];simp [aG.p,hdn]);unfold oI;rw [e];exact ⟨rfl,r,rfl,bL.quiet h A⟩
 .intro f hf hn hdn;subst hn;refine (GC _ B r f F hdn hf _ n (Blk.new _ _ _)).mono ?_;rintro e w1 ⟨v,rfl,E,r',C,D⟩;exact ⟨v,rfl,E,r',C,D.pre A⟩
 .rintro e w1 ⟨v,rfl,E,r',C,D⟩;go_wp2_with fail;go_ret;refine ⟨?_,r',C,D⟩;rw [<-E];rfl
theorem Dm {w w1 C:As} {B:Nat} {r:aG} {nm:bB} (h:aK w B r) (Y:B<=w.heap.size) (S:∀f∈r.fs,f.nm≠nm) (U:dm nm=true) (A0:r.fs.length<64)
  (M:w1=w.alloc (.cells #[.slice none 0 0,.int .i64 0] 112)) (Z:iV C prog 9 Rp r.m (r.fs.map gx++ [(oT nm,.lit (.int .i64 (w.heap.size:Int)))])) (j:w1.mapTurned C r.m):
  bL B w r C {r with fs:=r.fs++ [⟨nm,w.heap.size,none,0,[],0⟩]}:=by
 have H:Below w.heap.size w w1:=(by rw [M];exact (VW _ _).alloc (VU _) _);have J:Blk w1 w.heap.size #[.slice none 0 0,.int .i64 0] 112:=(by rw [M];exact Blk.new _ _ _);have A:=j.grown;have D:∀x,x≠r.m->x<w.heap.size->C.heap[x]? =w.heap[x]? :=fun x l E=>(A.block x (VP E H.size) (fun e=>l (by simpa using e))).trans (H.block x E);have A1:=h.map.lt;have N:w.heap.size≠r.m:=oA;have O:jX C B ⟨nm,w.heap.size,none,0,[],0⟩:=⟨(A.block _ J.lt (fun e=>N (by simpa using e))).trans J,Y,Mid.nil' _ _ _⟩;have L:∀g∈r.fs++ [(⟨nm,w.heap.size,none,0,[],0⟩:ct)],g∈r.fs\/g=⟨nm,w.heap.size,none,0,[],0⟩:=fun g A=>(by simpa using A);have P:∀g∈r.fs,jX C B g:=fun g A=>(h.files g A).keep (D _ (h.ne_map (h.files g A).blk) (h.files g A).blk.lt) (fun x hx=>by
  obtain ⟨_,E,V,G⟩:=(h.files g A).row.lt hx;exact D x (h.ne_map G) E)
 refine ⟨(aJ.of_below (F:=fp r) H).trans (aJ.of_grown (F:=fp r) A (fun k e=>by cases e;exact .inr (.inl rfl))) (fun _ D=> .inl D),?_,?_,rfl⟩
 .refine ⟨h.ged,h.gem,?_,?_,?_,?_,?_,?_⟩
  .exact (D _ (h.ne_map h.blk) h.blk.lt).trans h.blk
  .rw [VF];exact Z
  .intro g A;rcases L g A with A|rfl
   .exact P g A
   .exact O
  .rw [Yj];refine ⟨h.apart,List.pairwise_singleton _ _,fun f o g A=> ?_⟩;obtain rfl:=VS.1 A;refine ⟨?_,fun x _=>by simp [bI]⟩;have:=(h.files f o).blk.lt;show f.blk≠w.heap.size;omega
  .refine h.plan.keepAt fun x hx=> ?_;obtain ⟨_,E,V,G⟩:=h.plan.block_lt hx;exact D _ (h.ne_map G) E
  .have hp:aG.p {r with fs:=r.fs++ [⟨nm,w.heap.size,none,0,[],0⟩]}={r.p with fs:=r.p.fs++ [⟨nm,[],0⟩]}:=(by simp [aG.p,ct.p]);rw [hp];have I:∀g∈r.p.fs++ [(⟨nm,[],0⟩:dJ)],g∈r.p.fs\/g=⟨nm,[],0⟩:=fun g A=>(by simpa using A);refine ⟨?_,?_,?_,?_,?_,h.ok.left⟩
   .show ((r.p.fs++ [(⟨nm,[],0⟩:dJ)]).map (·.name)).Nodup;rw [VF,XQ];refine ⟨h.ok.names,skA,?_⟩;intro a q b s e;obtain rfl:b=nm:=(by simpa using s);obtain ⟨g,A,y⟩:=VH.1 q;obtain ⟨g0,W,rfl⟩:=VH.1 A;exact S g0 W (y.trans e)
   .intro g A;rcases I g A with A|rfl
    .exact h.ok.named g A
    .exact U
   .intro g A;rcases I g A with A|rfl
    .exact h.ok.sure g A
    .exact VU _
   .intro g A;rcases I g A with A|rfl
    .exact h.ok.size g A
    .exact Vt _
   .show (r.p.fs++ [(⟨nm,[],0⟩:dJ)]).length<=64;have:r.p.fs.length=r.fs.length:=(by simp [aG.p]);simp;omega
 .rintro x (hx|hx|⟨g,X,hx⟩|hx)
  .exact .inl (.inl hx)
  .exact .inl (.inr (.inl hx))
  .rcases L g X with A|rfl
   .exact .inl (.inr (.inr (.inl ⟨g,A,hx⟩)))
   .rcases hx with hx|hx
    .exact .inr (by subst hx;exact VU _)
    .simp [bI] at hx
  .exact .inl (.inr (.inr (.inr hx)))
theorem Gd (w:As) (B:Nat) (r:aG) (nm:bB) (h:aK w B r) (P:B<=w.heap.size) (G:nm.size<=maxLen):
  Calls prog 15 #[.pointer (some ⟨r.d,0,none⟩),.string nm] w fun e w'=>e= .returned (.int .i64 (fd r.p nm).2)/\∃r',r'.p=(fd r.p nm).1/\bL B w r w' r':=by
 have H:=h.blk.rule;unfold iI at H;cases D:r.down with
 |true=>
  rw [D] at H;have A:=Hd (show fd r.p nm=(r.p,5) by simp [fd,aG.p,D]);go_enter func15,ntmps15;go_wp2_with fail;go_ret;exact ⟨by rw [A.out];rfl,r,by rw [A.out],bL.refl h⟩
 |false=>
  rw [D] at H;cases C:dm nm with
  |false=>
   have A:=Hd (show fd r.p nm=(r.p,2) by simp [fd,aG.p,D,C]);go_enter func15,ntmps15;go_wp2_with (go_at_call 60;refine (mV nm _).mono ?_;rw [C];rintro e w1 ⟨rfl,rfl⟩);go_ret;exact ⟨by rw [A.out];rfl,r,by rw [A.out],bL.refl h⟩
  |true=>
   rcases MP r.fs nm with ⟨f,I,E,F⟩|⟨E,F⟩
   .have hl:=h.look G I E;have A:=Hd (show fd r.p nm=(r.p,101) by
     have:fF r.p nm=some f.p:=F;simp [fd,aG.p,D,C] at this⊢;rw [this];simp)
    go_enter func15,ntmps15;go_wp2_with (go_at_call 60;refine (mV nm _).mono ?_;rw [C];rintro e w1 ⟨rfl,rfl⟩);go_ret;exact ⟨by rw [A.out];rfl,r,by rw [A.out],bL.refl h⟩
   .have hl:=h.look_no G E;have L:=h.map.len underlying83 3;rw [lmA] at L;have M:=h.ok.count;have U:r.fs.length<=64:=(by simpa [aG.p] using M);by_cases J:64<=r.fs.length
    .have A:=Hd (show fd r.p nm=(r.p,100) by
      have:fF r.p nm=none:=F;simp [fd,aG.p,D,C,J] at this⊢;rw [this])
     have t0:decide ((64:Int)<=(r.fs.length:Int))=true:=soA;go_enter func15,ntmps15;go_wp2_with (go_at_call 60;refine (mV nm _).mono ?_;rw [C];rintro e w1 ⟨rfl,rfl⟩);go_ret;exact ⟨by rw [A.out];rfl,r,by rw [A.out],bL.refl h⟩
    .have A:=Hd (show fd r.p nm=({r.p with fs:=r.p.fs++ [⟨nm,[],0⟩]},0) by
      have:fF r.p nm=none:=F;simp [fd,aG.p,D,C,J] at this⊢;rw [this])
     have t0:decide ((64:Int)<=(r.fs.length:Int))=false:=soA;obtain ⟨W,V,N,O⟩:=(h.map.keep (w':=w.alloc (.cells #[.slice none 0 0,.int .i64 0] 112)) (Vp _ _ _ h.map.lt)).add JW underlying83 (by unfold maxLen;rw [lmA];omega) (XG underlying9 G) (NG w.heap.size) (by
      rw [nY];intro S;obtain ⟨f,I,e⟩:=VH.1 S;exact E f I (lg e))
     go_enter func15,ntmps15;go_wp2_with (go_at_call 60;refine (mV nm _).mono ?_;rw [C];rintro e w1 ⟨rfl,rfl⟩);go_ret;exact ⟨by rw [A.out];rfl,_,by rw [A.out];simp [aG.p,ct.p],Dm h P E C oA rfl N O⟩
theorem ld (l:ef):(l.flatMap dH).length=l.length*2:=mt (g:=dH) (sz:=2) (fun _=>rfl) l
theorem so (l:ef):∀u∈l.flatMap dH,u.oneCell'=true:=by
 intro u A;obtain ⟨x,_,hx⟩:=List.mem_flatMap.1 A;rcases Vk.1 hx with rfl|hx
 .rfl
 .rcases Vk.1 hx with rfl|hx
  .rfl
  .cases hx
theorem sL (a:Lt) (len cap:Nat) (l:ef) (w:As) (D:av w a (l.flatMap dH)) (A:l.length=len) (M:len*24<=140737488355328):
  Calls prog 72 #[.slice a len cap] w fun e w'=>∃a' c',e= .returned (.slice a' len c')/\Own w' w.heap.size 130 2 a' len c' (l.flatMap dH)/\Below w.heap.size w w':=by
 have E:=Hd A;clear A;have q:∀(w:As) (a:Lt) (n c n' c':Nat),(binOp .eql 47 (.slice a n c) (.slice none n' c')).run prog w= .ok (.bool a.isNone) w:=fun w a n c n' c'=>YA w _ _ a n c n' c' underlying47;cases a with
 |none=>
  have H:l=[]:=by
   refine VX (Xn fun h=> ?_);obtain ⟨_,_,e,_⟩:=D 0 (by rw [ld];omega);cases e
  subst H;have F:len=0:=E.out.symm;go_enter func72,ntmps72;go_wp2_with fail;go_ret;exact ⟨none,0,by rw [F];rfl,by rw [F];exact Own.nil _ _ _ _,VW _ _⟩
 |some x=>
  go_enter func72,ntmps72;have C:Own (w.alloc (.cells #[] 130)) w.heap.size 130 2 (some ⟨w.heap.size,0,none⟩) 0 0 []:=by
   refine ⟨skA,.inr ⟨w.heap.size,0,#[],rfl,VU _,ZO w _,VU _,mxA,skA,skA⟩⟩
  go_wp2_with (at_builtin;refine al rfl _ _ 47 rfl Ml rfl C rfl (D.alloc _) (by rw [ld,E.out]) (so _) mxA oA skA ?_);intro J L w1 G I;go_wp2_with fail;go_ret;refine ⟨J,L,?_,?_,C.grown ((VW _ _).alloc (VU _) _) (VU _) I skA⟩
  .first|rfl|simp
  .simpa using G
theorem KR (w:As) (B:Nat) (r:aG) (n:Int) (pa:Lt) (D pc:Nat) (plan:ef) (h:aK w B r) (W:B<=w.heap.size) (X:n<=9223372036854775807) (Y:av w pa (plan.flatMap dH)) (M:plan.length=D) (U:D*24<=140737488355328):
  Calls prog 22 #[.pointer (some ⟨r.d,0,none⟩),.int .i64 n,.slice pa D pc] w fun e w'=>e= .returned (.int .i64 (rO r.p n plan).2)/\∃r',r'.p=(rO r.p n plan).1/\bL B w r w' r':=by
 have J:=Hd M;clear M;have G:=h.blk.rule;unfold iI at G;cases E:r.down with
 |true=>
  rw [E] at G;have C:=Hd (show rO r.p n plan=(r.p,5) by simp [rO,aG.p,E]);go_enter func22,ntmps22;go_wp2_with fail;go_ret;exact ⟨by rw [C.out];rfl,r,by rw [C.out],bL.refl h⟩
 |false=>
  rw [E] at G;by_cases O:n<0
  .have C:=Hd (show rO r.p n plan=(r.p,2) by simp [rO,aG.p,E,O]);go_enter func22,ntmps22;go_wp2_with fail;go_ret;exact ⟨by rw [C.out];rfl,r,by rw [C.out],bL.refl h⟩
  .have C:=Hd (show rO r.p n plan=({r.p with armed:=true,left:=n,plan:=plan},0) by simp [rO,aG.p,E,O]);go_enter func22,ntmps22;go_wp2_with fail;refine (sL pa D pc plan w Y J.out U).mono ?_;rintro e w1 ⟨a',c',rfl,I,N⟩;have A:=h.old N;have Z:=A.blk.rule;have l:=A.blk.free;unfold iI at Z;clear G;go_wp2_with fail;go_ret;have P:Blk (((w1.setCell ⟨r.d,2,none⟩ (.bool true)).setCell ⟨r.d,3,none⟩ (.int .i64 n)).setCell ⟨r.d,4,none⟩ (.slice a' D c')) r.d (iI {r with armed:=true,left:=n,pa:=a',pc:=c',plan:=plan}) 85:=by
    have:=((A.blk.set 2 (.bool true)).set 3 (.int .i64 n)).set 4 (.slice a' D c');unfold iI;dsimp only;rw [J.out];exact this
   have H:∀x,x≠r.d->(((w1.setCell ⟨r.d,2,none⟩ (.bool true)).setCell ⟨r.d,3,none⟩ (.int .i64 n)).setCell ⟨r.d,4,none⟩ (.slice a' D c')).heap[x]? =w1.heap[x]? :=fun x hx=>by
    rw [Vq _ _ _ _ hx,Vq _ _ _ _ hx,Vq _ _ _ _ hx]
   refine ⟨by rw [C.out];rfl,{r with armed:=true,left:=n,pa:=a',pc:=c',plan:=plan},by rw [C.out];rfl,?_,?_,?_,rfl⟩
   .exact ((((aJ.of_below (F:=fp r) N).setCell (x:=⟨r.d,2,none⟩) (.inl (.inl rfl)) _).setCell (x:=⟨r.d,3,none⟩) (.inl (.inl rfl)) _).setCell (x:=⟨r.d,4,none⟩) (.inl (.inl rfl)) _)
   .refine ⟨h.ged,h.gem,P,A.map.keep (H _ (Vl (A.ne_map A.blk))),fun f L=>(A.files f L).keep (H _ (A.ne_file L)) (fun x hx=>H _ (A.ne_row L hx A.blk dcA)),h.apart,?_,⟨h.ok.names,h.ok.named,h.ok.sure,h.ok.size,h.ok.count,⟨by show 0<=n;omega,X⟩⟩⟩;show Own _ B 130 2 a' plan.length c' (plan.flatMap dH);rw [J.out];exact (I.lower W).keepAt fun x hx=>H _ (by
     obtain ⟨_,_,j,S⟩:=I.block_lt hx;exact Blk.ne S A.blk dcA)
   .rintro x (hx|hx|⟨g,V,hx⟩|hx)
    .exact .inl (.inl hx)
    .exact .inl (.inr (.inl hx))
    .exact .inl (.inr (.inr (.inl ⟨g,V,hx⟩)))
    .rw [WH] at hx;obtain ⟨m,b,rfl⟩:=hx;exact .inr (I.block_lt b).1
def nmA:bB:=⟨#[97]⟩
def wk0:aN:=⟨[],false,false,0,[]⟩
def wk1:aN:=⟨[⟨nmA,[],0⟩],false,false,0,[]⟩
def wk2:aN:=⟨[⟨nmA,[1,2,3],0⟩],false,false,0,[]⟩
def wk3:aN:=⟨[⟨nmA,[1,2,3],3⟩],false,false,0,[]⟩
def wk4:aN:=⟨[⟨nmA,[1,2,3,4,5],3⟩],false,false,0,[]⟩
def wk5:aN:=⟨[⟨nmA,[1,2,3,4],4⟩],true,false,0,[]⟩
def wk6:aN:=⟨[⟨nmA,[1,2,3,4],4⟩],false,false,0,[]⟩
theorem k1:fd wk0 nmA=(wk1,0):=by rfl
theorem k2:bw wk1 nmA [1,2,3]=(wk2,0):=by rfl
theorem k3:et wk2 nmA=(wk3,0):=by rfl
theorem k4:bw wk3 nmA [4,5]=(wk4,0):=by rfl
theorem k5:dz wk4 [(nmA,1)]=(wk5,0):=by rfl
theorem k6:bw wk5 nmA []=(wk5,5):=by rfl
theorem k7:lf wk5=(wk6,0):=by rfl
theorem av.turn {w w':As} {F:Nat->Prop} {a:Lt} {vs:AT} (h:av w a vs) (G:aJ F w w') (E:∀A,a=some A->¬F A.block):av w' a vs:=by
 intro i H;obtain ⟨b,o,C,D⟩:=h i H;exact ⟨b,o,C,(VE (a:=⟨b,o+i,none⟩) (G.block b (Vx w _ D) (E _ C))).trans D⟩
theorem ui (w:As):Calls prog 10 #[] w fun e w'=>∃r,e= .returned (.pointer (some ⟨r.d,0,none⟩))/\Hid (r.p=wk0)/\aK w' w.heap.size r/\Below w.heap.size w w':=
 (JF w).mono (by rintro e w' ⟨rfl,A,C,_⟩;exact ⟨newR w,rfl,Hd rfl,A,C⟩)
end
section
open Go.RowKit
section
variable {w w':As} {B:Nat} {T t:TypeId} {a a':Lt} {n c n' c':Nat}
theorem Own.other {B':Nat} {vs F:AT} {A:Lt} {m C:Nat} (h:Own w B t 1 A m C F) (I:Own w B' T 1 a n c vs) (G:T≠t) (J:w.grownBy w' (Value.slice a n c).ownBlock):Own w' B t 1 A m C F:=by
 refine ⟨h.1,?_⟩;rcases h.2 with D|⟨g,cap,H,L,D,E,M⟩
 .exact .inl D
 .refine .inr ⟨g,cap,H,L,D,?_,M⟩;refine (J.block g (VT.1 E).1 fun e=> ?_).trans E;rcases I.2 with ⟨k1,_⟩|⟨P,N,O,k1,_,k3,_⟩
  .rw [k1] at e;cases e
  .rw [k1] at e;cases e;rw [E] at k3;simp only [Vu,YS] at k3;exact G k3.2.1.symm
theorem Own.cap_max {vs:AT} (h:Own w B t 1 a n c vs):c<=maxLen:=by
 rcases h.2 with ⟨A,_⟩|⟨g,cap,C,A,_,_,_,D,_⟩
 .simp only [Vi] at A;unfold maxLen;omega
 .simp only [Vi] at A;omega
def aU (w:As) (B:Nat) (T t:TypeId) (a:Lt) (n c:Nat) (vs:AT) (ls:List Le):Prop:=
 Own w B T 1 a n c vs/\vs.length=ls.length/\∀r (h:r<ls.length),∃A C,vs[r]? =some (.slice A ls[r].length C)/\Own w B t 1 A ls[r].length C (ls[r].map bv)
theorem aU.nil (w:As) (B:Nat) (T t:TypeId):aU w B T t none 0 0 [] []:=⟨Own.nil _ _ _ _,rfl,fun r h=>by simp at h⟩
theorem aU.old {vs:AT} {ls:List Le} (h:aU w B T t a n c vs ls) (D:Below w.heap.size w w'):aU w' B T t a n c vs ls:=
 ⟨h.1.old D,h.2.1,fun r E=>by obtain ⟨A,C,F,G⟩:=h.2.2 r E;exact ⟨A,C,F,G.old D⟩⟩
theorem aU.drew {vs:AT} {ls:List Le} (h:aU w B T t a n c vs ls) (k:Nat):aU (w.drewN k) B T t a n c vs ls:=
 h.old (bS (VW _ _) k)
theorem aU.length {vs:AT} {ls:List Le} (h:aU w B T t a n c vs ls):ls.length=n:=by
 have:=h.1.1;rw [<-h.2.1];omega
theorem aU.pieces {vs:AT} {ls:List Le} (h:aU w B T t a n c vs ls):zX w a ls:=by
 intro r F;obtain ⟨A,C,G,D⟩:=h.2.2 r F;have E:r<vs.length:=(by rw [h.2.1];exact F);obtain ⟨b,o,e,H⟩:=h.1.row r E;refine ⟨b,o,A,C,e,?_,D.row,D.le,D.cap_max⟩;rw [H,<-G,VJ E]
theorem aU.snoc {B':Nat} {vs:AT} {ls:List Le} (h:aU w B T t a n c vs ls) (E:T≠t) (F:w.grownBy w' (Value.slice a n c).ownBlock) {x:Le} {A:Lt} {m C:Nat} (G:x.length=m)
  (hx:Own w B' t 1 A m C (x.map bv)) (H:B<=B') (h':Own w' B T 1 a' n' c' (vs++ [.slice A m C])):aU w' B T t a' n' c' (vs++ [.slice A m C]) (ls++ [x]):=by
 subst G;refine ⟨h',by simp [h.2.1],fun r I=> ?_⟩;by_cases D:r<ls.length
 .obtain ⟨J,L,M,N⟩:=h.2.2 r D;rw [List.getElem_append_left D];refine ⟨J,L,?_,N.other h.1 E F⟩;rw [Vo (by rw [h.2.1];exact D)];exact M
 .have:r=ls.length:=(by simp at I;omega);subst this;simp only [List.getElem_concat_length];refine ⟨A,C,?_,(hx.lower H).other h.1 E F⟩;rw [<-h.2.1];simp
end
theorem tX:bC prog 124 22 1 24:=bC.mk (z:= .slice none 0 0) underlying124 krA rfl oA
def ju:Nat:=4096
theorem jD:ju=4096:=rfl
attribute [irreducible] ju
def Lb (w:As) (b:Le) (f:Nat) (loads rest:Value) (w':As):Prop:=
 ∃(a1 a2:Lt) (n1 c1 n2 c2:Nat) (vs:AT) (done:List Le) (r:Le),loads= .slice a1 n1 c1/\aU w' w.heap.size 22 5 a1 n1 c1 vs done/\rest= .slice a2 n2 c2/\aj w a2 r/\r.length=n2/\n2<=c2/\n2<=140737488351232/\
  n1+f=ju/\scan ju b=(done++(scan f r).1,(scan f r).2)/\Below w.heap.size w w'
theorem BX {c d:UInt8} (h:c≠d):(U8 c !=U8 d)=true:=by
 have:U8 c≠U8 d:=fun e=>h (UInt8.toNat.inj (Int.ofNat.inj e));simpa using this
def ND (d0 d1 d2 d3 e0 e1 e2 e3:UInt8) (w:As) (f:Nat) (i:Value) (w':As):Prop:=
 w'=w/\((i= .int .i64 0/\f=4)\/(i= .int .i64 1/\f=3/\d0=e0)\/(i= .int .i64 2/\f=2/\d0=e0/\d1=e1)\/(i= .int .i64 3/\f=1/\d0=e0/\d1=e1/\d2=e2)\/(i= .int .i64 4/\f=0/\d0=e0/\d1=e1/\d2=e2/\d3=e3))
theorem Fp (a:Lt) (len cap:Nat) (b:Le) (w:As) (hl:aj w a b) (A9:b.length=len) (hm:len<=140737488351232) (C3:len<=cap):
  Calls prog 105 #[.slice a len cap] w fun e w'=>∃a' n' c' vs,e= .returned (.tuple #[.slice a' n' c',.int .i64 ((scan ju b).2.length:Int)])/\aU w' w.heap.size 22 5 a' n' c' vs (scan ju b).1/\Below w.heap.size w w':=by
 have HL:=Hd A9;clear A9;go_enter func105,ntmps105;go_wp2_with fail;go_step3;go_wp2_with fail;go_step3;go_wp2_with fail;go_loopg [2,4] ju (Lb w b)
 case atStart=>exact ⟨none,a,0,0,len,cap,[],[],b,rfl,aU.nil _ _ _ _,rfl,hl,HL.out,C3,hm,VN _,skA,VW _ _⟩
 case round=>
  obtain ⟨L,a2,n1,M,D,c2,vs,done,r,rfl,V,rfl,Y,B2,DO,D0,hf,hs,U⟩:=hrel;have B3:=Y;replace Y:=B3.below U;have p:=Hd hs;have C:=Hd B2;clear hs B2;rw [jD] at hf;cases gk with
  |zero=>
   have t1:decide ((n1:Int)<4096)=false:=soA;clear hf;go_wp2_with fail
   (try rw [Wq]);go_ret2;have e:=iq p.out (.inl rfl);refine ⟨L,n1,M,vs,?_,by rw [e];exact V,U⟩;rw [e,C.out];rfl
  |succ f=>
   have t1:decide ((n1:Int)<4096)=true:=soA;have HF:=Hd hf;clear hf;by_cases h8:D<=8
   .have t2:decide ((8:Int)<(D:Int))=false:=soA;go_wp2_with fail
    (try rw [Wq]);go_ret2;have e:=iq p.out (.inr (jd (by rw [C.out];exact h8)));refine ⟨L,n1,M,vs,?_,by rw [e];exact V,U⟩;rw [e,C.out];rfl
   .have t2:decide ((8:Int)<(D:Int))=true:=soA;obtain ⟨F,G,H,I,d0,d1,d2,d3,m,rfl,A6⟩:=MU (r:=r) (by rw [C.out];omega);obtain ⟨g,o,rfl,O⟩:=aj.at Y (by rw [C.out];omega);have g0:wr.cell? ⟨g,o,none⟩=some (.int .u8 (U8 F)):=O 0 skA;have g1:wr.cell? ⟨g,o+1,none⟩=some (.int .u8 (U8 G)):=O 1 skA;have g2:wr.cell? ⟨g,o+2,none⟩=some (.int .u8 (U8 H)):=O 2 skA;have g3:wr.cell? ⟨g,o+3,none⟩=some (.int .u8 (U8 I)):=O 3 skA;have A1:g<wr.heap.size:=av.lt Y skA;have k0:(0:Int)<D:=oA;have k1:(1:Int)<D:=oA;have k2:(2:Int)<D:=oA;have k3:(3:Int)<D:=oA;have D1:m.length+8=D:=(by have:=C.out;simp only [VC] at this;omega);obtain ⟨N,S⟩:∃N,tR F G H I=N:=⟨_,rfl⟩;have HO:=orBE F G H I;rw [S] at HO;have B4:fB (F::G::H::I::d0::d1::d2::d3::m)=N:=S;by_cases A0:1<=N/\N<=65536/\N<=D-8
    .obtain ⟨b1,b2,b3⟩:=A0;have t3:decide ((N:Int)<1)=false:=soA;have t4:decide ((65536:Int)<(N:Int))=false:=soA;have t5:decide ((D:Int)-8<(N:Int))=false:=soA;go_wp2_with fail;go_quiet (fail);go_wp2_with fail;have hx:=av.drop (b:=g) (o:=o) 8 Y;have C6:aj (wr.drewN nq) (some ⟨g,o,none⟩) [F,G,H,I]:=av.take 4 Y;refine (Ci _ 4 _ [F,G,H,I] _ C6 rfl mxA).mono ?_;rintro e w1 ⟨rfl,C7⟩;have BY:Below wr.heap.size wr w1:=aa (bS (VW _ wr) nq) C7;have B5:aj w1 (some ⟨g,o+8,none⟩) (m.take N):=by
      have:aj wr (some ⟨g,o+8,none⟩) (m.take N):=(by unfold aj;rw [WB];exact av.take N hx);exact this.below BY
     have A2:(m.take N).length=N:=(by rw [ltA];omega);go_wp2_with fail;refine (uj _ _ _ _ (m.take N) _ B5 A2 mxA).mono ?_;rintro e q ⟨rfl,B6⟩;rw [CI F G H I (m.take N) (by rw [A2,S])];have W:=aa BY B6;have A7:=xu F G H I d0 d1 d2 d3 m A6 (by rw [S];exact b1) (by rw [S];exact b2) (by rw [S];omega);rw [S] at A7;have A3:=Hd A7;clear A7;obtain ⟨A,B7⟩:∃s,kC (m.take N)=s:=⟨_,rfl⟩;rw [B7] at A3⊢;clear B7;have f0:=Eo A;have f1:=Im A;have f2:=Er A;have f3:=Ep A;have hq:le4 A=[⟨A.setWidth 8⟩,⟨(A>>>8).setWidth 8⟩,⟨(A>>>16).setWidth 8⟩,⟨(A>>>24).setWidth 8⟩]:=rfl;generalize (⟨A.setWidth 8⟩:UInt8)=e0 at*;generalize (⟨(A>>>8).setWidth 8⟩:UInt8)=e1 at*;generalize (⟨(A>>>16).setWidth 8⟩:UInt8)=e2 at*;generalize (⟨(A>>>24).setWidth 8⟩:UInt8)=e3 at*;rw [hq] at A3;clear hq;have q0:q.cell? ⟨g,o+4,none⟩=some (.int .u8 (U8 d0)):=(by rw [W.cell A1];exact O 4 skA);have q1:q.cell? ⟨g,o+5,none⟩=some (.int .u8 (U8 d1)):=(by rw [W.cell A1];exact O 5 skA);have q2:q.cell? ⟨g,o+6,none⟩=some (.int .u8 (U8 d2)):=(by rw [W.cell A1];exact O 6 skA);have q3:q.cell? ⟨g,o+7,none⟩=some (.int .u8 (U8 d3)):=(by rw [W.cell A1];exact O 7 skA);have l:=V.old W;have X:=aa U W;have C4:=B5.below B6;have A8:[d0,d1,d2,d3]≠ [e0,e1,e2,e3]->scan ju b=(done,F::G::H::I::d0::d1::d2::d3::m):=fun h=>iq p.out (.inr (by rw [A3.out];exact beq_false_of_ne h));have y:=Hd A8;clear A8;have B9:[d0,d1,d2,d3]=[e0,e1,e2,e3]->scan ju b=((done++ [m.take N])++(scan f (m.drop N)).1,(scan f (m.drop N)).2):=fun h=>by
      have:=vj p.out (by rw [A3.out,h];exact BEq.rfl);unfold gw at this;rw [B4,Zx 8 N] at this;exact this
     have C8:=Hd B9;clear B9;go_wp2_with fail;go_loopg [68] 4 (ND d0 d1 d2 d3 e0 e1 e2 e3 q)
     case atStart=>exact ⟨rfl,.inl ⟨rfl,rfl⟩⟩
     case round=>
      obtain ⟨rfl,⟨rfl,rfl⟩|⟨rfl,rfl,E⟩|⟨rfl,rfl,E,J⟩|⟨rfl,rfl,E,J,P⟩|⟨rfl,rfl,E,J,P,Z⟩⟩:=hrel
      .by_cases E:d0=e0
       .have ht:(U8 d0 !=U32 A%256)=false:=(by rw [f0,E];simp);go_wp2_with fail;go_roundg 3
        case rel=>exact ⟨rfl,.inr (.inl ⟨rfl,rfl,E⟩)⟩
        case measure=>omega
       .have ht:(U8 d0 !=U32 A%256)=true:=(by rw [f0];exact BX E);go_wp2_with fail
        (try rw [Wq]);go_ret2;have e:=y.out fun h=>E (by simp only [Wy] at h;exact h.1);refine ⟨L,n1,M,vs,?_,by rw [e];exact l,X⟩;rw [e,C.out];rfl
      .by_cases J:d1=e1
       .have ht:(U8 d1 !=U32 A/256%256)=false:=(by rw [f1,J];simp);go_wp2_with fail;go_roundg 2
        case rel=>exact ⟨rfl,.inr (.inr (.inl ⟨rfl,rfl,E,J⟩))⟩
        case measure=>omega
       .have ht:(U8 d1 !=U32 A/256%256)=true:=(by rw [f1];exact BX J);go_wp2_with fail
        (try rw [Wq]);go_ret2;have e:=y.out fun h=>J (by simp only [Wy] at h;exact h.2.1);refine ⟨L,n1,M,vs,?_,by rw [e];exact l,X⟩;rw [e,C.out];rfl
      .by_cases P:d2=e2
       .have ht:(U8 d2 !=U32 A/65536%256)=false:=(by rw [f2,P];simp);go_wp2_with fail;go_roundg 1
        case rel=>exact ⟨rfl,.inr (.inr (.inr (.inl ⟨rfl,rfl,E,J,P⟩)))⟩
        case measure=>omega
       .have ht:(U8 d2 !=U32 A/65536%256)=true:=(by rw [f2];exact BX P);go_wp2_with fail
        (try rw [Wq]);go_ret2;have e:=y.out fun h=>P (by simp only [Wy] at h;exact h.2.2.1);refine ⟨L,n1,M,vs,?_,by rw [e];exact l,X⟩;rw [e,C.out];rfl
      .by_cases Z:d3=e3
       .have ht:(U8 d3 !=U32 A/16777216%256)=false:=(by rw [f3,Z];simp);go_wp2_with fail;go_roundg 0
        case rel=>exact ⟨rfl,.inr (.inr (.inr (.inr (⟨rfl,rfl,E,J,P,Z⟩))))⟩
        case measure=>omega
       .have ht:(U8 d3 !=U32 A/16777216%256)=true:=(by rw [f3];exact BX Z);go_wp2_with fail
        (try rw [Wq]);go_ret2;have e:=y.out fun h=>Z (by simp only [Wy] at h;exact h.2.2.2.1);refine ⟨L,n1,M,vs,?_,by rw [e];exact l,X⟩;rw [e,C.out];rfl
      .have hcnt:=HF.out;go_wp2_with fail;refine (jU _ _ _ (m.take N) _ C4 A2 oA).mono ?_;rintro e w3 ⟨a3,c3,rfl,C9,CK⟩;have A4:=(l.old CK).old ((VW _ w3).alloc (VU _) (.cells #[.slice a3 N c3] 22));have C5:=Own.lit (w:=w3) (B:=0) (e:=22) #[.slice a3 N c3] [.slice a3 N c3] 1 rfl rfl (Vt _) mxA;have A5:=aa (aa X CK) ((VW _ w3).alloc (VU _) (.cells #[.slice a3 N c3] 22));go_wp2_with (at_builtin;refine al rfl _ _ 124 rfl tX rfl A4.1 rfl C5.row rfl (by intro u hu;rw [VS.1 hu];rfl) mxA oA A5.size ?_);intro a4 c4 w4 C2 CW;have B0:=A4.snoc dcA CW A2 (C9.alloc _) X.size C2;have C0:=A4.1.grown A5 (VU _) CW A5.size;have C1:=C8.out (by rw [E,J,P,Z]);have B1:(m.drop N).length=D-(8+N):=(by rw [ldA];omega);go_wp2_with fail
       case inl hcc=>
        have A6:m.drop N=[]:=VX oA;go_roundg f
        case measure=>omega
        case rel=>exact ⟨a4,_,n1+1,c4,_,0,_,_,m.drop N,rfl,B0,rfl,by rw [A6];exact av.nil _ _,B1,oA,oA,by rw [jD];omega,C1,C0⟩
       case inr hcc=>
        go_roundg f
        case measure=>omega
        case rel=>
         refine ⟨a4,_,n1+1,c4,_,_,_,_,m.drop N,rfl,B0,rfl,?_,B1,oA,oA,by rw [jD];omega,C1,C0⟩;have hz:=av.drop N (av.drop (b:=g) (o:=o) 8 B3);rw [WM] at hz;unfold aj;rw [YG];exact hz
    .have hno:=yW (b:=F::G::H::I::d0::d1::d2::d3::m) (by rw [B4,C.out];exact A0);have e:=iq p.out (.inr hno);have j:=Hd e;have HA:=Hd A0;clear A0 hno e;by_cases b1:1<=N
     .have t3:decide ((N:Int)<1)=false:=soA;by_cases b2:N<=65536
      .have t4:decide ((65536:Int)<(N:Int))=false:=soA;have t5:decide ((D:Int)-8<(N:Int))=true:=(by have:=HA.out;simp;omega);go_wp2_with fail;go_quiet (fail);go_wp2_with fail
       (try rw [Wq]);go_ret2;refine ⟨L,n1,M,vs,?_,by rw [j.out];exact V.drew _,bS U _⟩;rw [j.out,C.out];rfl
      .have t4:decide ((65536:Int)<(N:Int))=true:=soA;go_wp2_with fail;go_quiet (fail);go_wp2_with fail
       (try rw [Wq]);go_ret2;refine ⟨L,n1,M,vs,?_,by rw [j.out];exact V.drew _,bS U _⟩;rw [j.out,C.out];rfl
     .have t3:decide ((N:Int)<1)=true:=soA;go_wp2_with fail;go_quiet (fail);go_wp2_with fail
      (try rw [Wq]);go_ret2;refine ⟨L,n1,M,vs,?_,by rw [j.out];exact V.drew _,bS U _⟩;rw [j.out,C.out];rfl
end
section
open Go.RowKit Go.Maps
section
variable {w w':As} {B:Nat} {T t:TypeId} {a:Lt} {n c:Nat} {vs:AT} {ls:List Le}
theorem aU.keep (h:aU w B T t a n c vs ls) (G:∀x,a=some x->w'.heap[x.block]? =w.heap[x.block]?) (F:∀D m C,Value.slice (some D) m C∈vs->w'.heap[D.block]? =w.heap[D.block]?):aU w' B T t a n c vs ls:=by
 refine ⟨h.1.keepAt G,h.2.1,fun r H=> ?_⟩;obtain ⟨A,C,E,I⟩:=h.2.2 r H;exact ⟨A,C,E,I.keepAt fun x hx=>by subst hx;exact F x _ C (List.mem_of_getElem? E)⟩
theorem aU.lower {B':Nat} (h:aU w B T t a n c vs ls) (D:B'<=B):aU w B' T t a n c vs ls:=
 ⟨h.1.lower D,h.2.1,fun r E=>by obtain ⟨A,C,F,G⟩:=h.2.2 r E;exact ⟨A,C,F,G.lower D⟩⟩
theorem aU.inner {D:Addr} {m C:Nat} (h:aU w B T t a n c vs ls) (H:Value.slice (some D) m C∈vs):B<=D.block/\D.block<w.heap.size/\∃G,Blk w D.block G t:=by
 obtain ⟨r,F,I⟩:=XC H;obtain ⟨A,L,E,J⟩:=h.2.2 r (by rw [<-h.2.1];exact F);rw [VJ F,I] at E;simp only [Vu,Vi] at E;exact J.block_lt E.1.symm
end
structure jo where
 l:Nat
 nm:bB
 a:Lt
 c:Nat
 vs:AT
 ls:List Le
 sure:Nat
structure lL (w:As) (B:Nat) (d:Nat) (R:jo):Prop where
 ge:B<=R.l
 blk:Blk w R.l #[.pointer (some ⟨d,0,none⟩),.string R.nm,.slice R.a R.ls.length R.c,.int .i64 (R.sure:Int)] 164
 rows:aU w B 22 5 R.a R.ls.length R.c R.vs R.ls
 cnt:R.ls.length<=4096
 lens:∀x∈R.ls,x.length<=65536
 nmz:R.nm.size<=maxLen
 sle:R.sure<=R.ls.length
def dP (R:jo) (x:Nat):Prop:=x=R.l\/(∃ad,R.a=some ad/\x=ad.block)\/∃ad m C,Value.slice (some ad) m C∈R.vs/\x=ad.block
section
variable {w w':As} {B d:Nat} {R R' R'':jo} {r r' r'':aG}
theorem lL.keep (h:lL w B d R) (A:∀x,dP R x->w'.heap[x]? =w.heap[x]?):lL w' B d R:=
 ⟨h.ge,(A _ (.inl rfl)).trans h.blk,h.rows.keep (fun x hx=>A _ (.inr (.inl ⟨x,hx,rfl⟩))) (fun D m C E=>A _ (.inr (.inr ⟨D,m,C,E,rfl⟩))),h.cnt,h.lens,h.nmz,h.sle⟩
theorem lL.lt (h:lL w B d R) {x:Nat} (hx:dP R x):B<=x/\x<w.heap.size:=by
 rcases hx with rfl|⟨E,F,rfl⟩|⟨E,m,C,G,rfl⟩
 .exact ⟨h.ge,h.blk.lt⟩
 .obtain ⟨A,D,_⟩:=h.rows.1.block_lt F;exact ⟨A,D⟩
 .obtain ⟨A,D,_⟩:=h.rows.inner G;exact ⟨A,D⟩
theorem lL.old (h:lL w B d R) (A:Below w.heap.size w w'):lL w' B d R:=h.keep fun x hx=>A.block x (h.lt hx).2
structure DL (w:As) (B:Nat) (r:aG) (R:jo):Prop where
 disk:aK w B r
 log:lL w B r.d R
 apart:∀x,dP R x->¬fp r x
theorem DL.keep (h:DL w B r R) (A:∀x,fp r x\/dP R x->w'.heap[x]? =w.heap[x]?):DL w' B r R:=⟨h.disk.keep fun x hx=>A x (.inl hx),h.log.keep fun x hx=>A x (.inr hx),h.apart⟩
theorem DL.lt (h:DL w B r R) {x:Nat} (hx:fp r x\/dP R x):B<=x/\x<w.heap.size:=hx.elim h.disk.lt h.log.lt
theorem DL.old (h:DL w B r R) (A:Below w.heap.size w w'):DL w' B r R:=h.keep fun x hx=>A.block x (h.lt hx).2
structure iU (B:Nat) (w:As) (r:aG) (R:jo) (w':As) (r':aG) (R':jo):Prop where
 turn:aJ (fun x=>fp r x\/dP R x) w w'
 at':DL w' B r' R'
 foot':∀x,fp r' x\/dP R' x->(fp r x\/dP R x)\/w.heap.size<=x
 d:r'.d=r.d
 l:R'.l=R.l
 nm:R'.nm=R.nm
theorem iU.trans {C:As} (h:iU B w r R w' r' R') (h':iU B w' r' R' C r'' R''):iU B w r R C r'' R'':=
 ⟨h.turn.trans h'.turn h.foot',h'.at',fun x hx=>by
  rcases h'.foot' x hx with A|A
  .exact h.foot' x A
  .exact .inr (Vd h.turn.size A),h'.d.trans h.d,h'.l.trans h.l,h'.nm.trans h.nm⟩
theorem iU.old (h:DL w B r R) (A:Below w.heap.size w w'):iU B w r R w' r R:=⟨aJ.of_below A,h.old A,fun _ hx=> .inl hx,rfl,rfl,rfl⟩
theorem bL.log (A:bL B w r w' r') (h:DL w B r R):iU B w r R w' r' R:=by
 refine ⟨A.turn.mono fun _ hx=> .inl hx,⟨A.at',?_,fun x hx C=> ?_⟩,fun x hx=> ?_,A.d,rfl,rfl⟩
 .rw [A.d];exact h.log.keep fun x hx=>A.turn.block x (h.log.lt hx).2 (h.apart x hx)
 .rcases A.foot' x C with h1|h1
  .exact h.apart x hx h1
  .have:=(h.log.lt hx).2;omega
 .rcases hx with hx|hx
  .rcases A.foot' x hx with h1|h1
   .exact .inl (.inl h1)
   .exact .inr h1
  .exact .inl (.inr hx)
end
def dt (p:aN) (nm:bB):List Le×Le:=scan ju (bN p nm).1
def cQ (p:aN) (nm:bB):aN×Int:=if (bN p nm).2=4 then fd p nm else (p,(bN p nm).2)
def br (p:aN) (nm:bB):aN×Int:=if (dt p nm).2.length=0 then ((cQ p nm).1,0) else jF (cQ p nm).1 nm ((((bN p nm).1.length-(dt p nm).2.length:Nat)):Int)
def eo (p:aN) (nm:bB):aN×Int:=et (br p nm).1 nm
def en (p:aN) (nm:bB):Int:=if (cQ p nm).2≠0 then (cQ p nm).2 else if (br p nm).2≠0 then (br p nm).2 else (eo p nm).2
def gN (p:aN) (nm:bB):aN:=if (cQ p nm).2≠0 then (cQ p nm).1 else if (br p nm).2≠0 then (br p nm).1 else (eo p nm).1
def iG (p:aN) (nm:bB):Nat:=if en p nm=0 then (dt p nm).2.length else 0
end
section
open Go.RowKit
def aO (l:List ao):Nat:=(l.filter fun x=>decide (x.kind=1)).length
def ofG (l:List ao) (g:Int):List ao:=l.filter fun x=>decide (x.game=g)
def di:Nat->List ao->Int->List Nat
 |_,[],_=> []
 |i,x::l,g=>if x.game=g then i::di (i+1) l g else di (i+1) l g
def bf (l:List ao) (g:Int):List Nat:=di 0 l g
def bz (l:List ao) (x:ao):Bool:=if x.kind=1 then decide (x.game=(aO l:Int)) else decide (0<=x.game)&&decide (x.game<(aO l:Int))
theorem gj (l:List ao) (x:ao):aO (l++ [x])=aO l+(if x.kind=1 then 1 else 0):=by
 unfold aO;rw [ZJ,laA];by_cases h:x.kind=1<;>simp [h]
theorem FO (l:List ao) (x:ao) (g:Int):ofG (l++ [x]) g=ofG l g++(if x.game=g then [x] else []):=by
 unfold ofG;rw [ZJ];by_cases h:x.game=g<;>simp [h]
theorem kZ:∀(l:List ao) (i:Nat) (x:ao) (g:Int),di i (l++ [x]) g=di i l g++(if x.game=g then [i+l.length] else [])
 | [],i,x,g=>by by_cases h:x.game=g<;>simp [di,h]
 |y::l,i,x,g=>by
  rw [Xf,di,di,kZ l (i+1) x g,VC,show i+1+l.length=i+(l.length+1) by omega];split<;>simp
theorem iR (l:List ao) (x:ao) (g:Int):bf (l++ [x]) g=bf l g++(if x.game=g then [l.length] else []):=by
 unfold bf;rw [kZ,VN]
theorem sj:∀(l:List ao) (i:Nat) (g:Int),(di i l g).length=(ofG l g).length
 | [],_,_=>rfl
 |y::l,i,g=>by
  have A:=sj l (i+1) g;unfold ofG at A⊢;by_cases h:y.game=g
  .simp [di,h,A]
  .simp [di,h,A]
theorem fl (l:List ao) (g:Int):(bf l g).length=(ofG l g).length:=sj l 0 g
theorem vC:∀(l:List ao) (i:Nat) (g:Int),∀j∈di i l g,i<=j/\j<i+l.length
 | [],_,_,j,h=>by simp [di] at h
 |y::l,i,g,j,h=>by
  rw [di] at h;have A:=vC l (i+1) g j;rw [VC];split at h
  .rcases Vk.1 h with rfl|h
   .omega
   .have:=A h;omega
  .have:=A h;omega
theorem xL (l:List ao) (g:Int):∀j∈bf l g,j<l.length:=fun j h=>by
 have:=vC l 0 g j h;omega
theorem sk:∀(l A:List ao) (g:Int),(di A.length l g).filterMap (fun j=>(A++l)[j]?)=ofG l g
 | [],A,g=>rfl
 |y::l,A,g=>by
  have C:=sk l (A++ [y]) g;rw [laA,Xq,Vf,List.singleton_append] at C;rw [di];unfold ofG at C⊢;by_cases h:y.game=g
  .rw [Vz h,List.filterMap_cons,Vw (VU _),Ye];simp [h,C]
  .rw [VV h,C];simp [h]
theorem vD (l:List ao) (g:Int):(bf l g).filterMap (fun j=>l[j]?)=ofG l g:=sk l [] g
theorem mZ (l:List ao):aO l<=l.length:=YU _ _
theorem Dc (l:List ao) (g:Int):(ofG l g).length<=l.length:=YU _ _
inductive nr:List ao->Prop
 |nil:nr []
 |snoc {l:List ao} {x:ao} (h:nr l) (hm:iE x=true) (hf:bz l x=true) (hk:OkD x):nr (l++ [x])
theorem dI {l:List ao} {x:ao} (h:bz l x=true):0<=x.game/\x.game<(aO (l++ [x]):Int)/\(x.kind≠1->x.game<(aO l:Int))/\(x.kind=1->x.game=(aO l:Int)):=by
 unfold bz at h;rw [gj];by_cases A:x.kind=1
 .rw [Vz A] at h;have:=Wu h;refine ⟨oA,by simp [A];omega,fun C=>absurd A C,fun _=>this⟩
 .rw [VV A] at h;simp only [Vh,WW] at h;refine ⟨h.1,by simp [A];omega,fun _=>h.2,fun e=>absurd e A⟩
theorem nr.range {l:List ao} (h:nr l):∀x∈l,0<=x.game/\x.game<(aO l:Int):=by
 induction h with
 |nil=>intro x hx;cases hx
 | @snoc l y h hm hf hk ih=>
  intro x hx;have A:=dI hf;rcases Ve.1 hx with hx|hx
  .have:=ih x hx;rw [gj];refine ⟨this.1,?_⟩;split<;>omega
  .rw [VS.1 hx];exact ⟨A.1,A.2.1⟩
theorem nr.none {l:List ao} (h:nr l) {g:Int} (A:(aO l:Int)<=g):ofG l g=[]:=by
 unfold ofG;rw [Xo];intro x hx e;have:=h.range x hx;have:=Wu e;omega
theorem nr.first {l:List ao} (h:nr l):∀g:Nat,g<aO l->∃x r,ofG l (g:Int)=x::r/\x.kind=1:=by
 induction h with
 |nil=>intro g C;simp [aO] at C
 | @snoc l y h hm hf hk ih=>
  intro g C;rw [gj] at C;rw [FO];by_cases D:g<aO l
  .obtain ⟨x,r,e,A⟩:=ih g D;rw [e];exact ⟨x,r++(if y.game=(g:Int) then [y] else []),skA,A⟩
  .have A:y.kind=1:=by
    by_cases e:y.kind=1
    .exact e
    .rw [VV e] at C;omega
   rw [Vz A] at C;have E:g=aO l:=oA;have e:=(dI hf).2.2.2 A;rw [h.none oA,Vz (by rw [e,E])];exact ⟨y,[],rfl,A⟩
theorem nr.pos {l:List ao} (h:nr l) {g:Nat} (A:g<aO l):0<(bf l (g:Int)).length:=by
 obtain ⟨x,r,e,-⟩:=h.first g A;rw [fl,e];simp
def gO (m:Le) (l:List ao) (x:ao):Le:=be8 x.game++fM m x.game.toNat (ofG l x.game).length (bj x)
def bG (m:Le) (l:List ao) (load:Le):ao×Bool:=
 let c:=bp ⟨load,false⟩
 if c.2.bad=true\/c.1<0\/(aO l:Int)<c.1 then (kE,false)
 else if (fO m c.1.toNat (ofG l c.1).length c.2.b).2≠0 then (kE,false)
 else ((gB (fO m c.1.toNat (ofG l c.1).length c.2.b).1).1,decide ((gB (fO m c.1.toNat (ofG l c.1).length c.2.b).1).2=0/\(gB (fO m c.1.toNat (ofG l c.1).length c.2.b).1).1.game=c.1)&&bz l (gB (fO m c.1.toNat (ofG l c.1).length c.2.b).1).1)
def fN (m:Le):List ao->List Le->List ao
 |l,[]=>l
 |l,x::r=>if (bG m l x).2 then fN m (l++ [(bG m l x).1]) r else l
end
end Go.Proofs.YtioigihakjlopaaGreat

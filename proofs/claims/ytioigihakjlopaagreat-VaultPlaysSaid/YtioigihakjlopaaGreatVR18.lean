import Derived.Test.YtioigihakjlopaaGreatVR17
namespace Go.Proofs.YtioigihakjlopaaGreat
open Go.Proofs.Tryz
set_option linter.unusedVariables false
set_option linter.unusedSimpArgs false
set_option maxHeartbeats 16000000
set_option maxRecDepth 100000
section
open Go.RowKit Go.Maps
def du.pv (V:du):aR:=⟨V.v,V.ma,V.mc,V.m,V.R,V.da,V.dc,V.ds,0,fun _=>0,fun _=>0,0,[],V.down⟩
def oM (V:du) (x:Nat):Prop:=x=V.v\/atB V.ma x\/atB V.da x
def nh (r:cz) (V:du) (x:Nat):Prop:=(eJ r x\/fW V.R x)\/oM V x
structure RV0 (w:As) (B:Nat) (r:cz) (V:du):Prop where
 ge:B<=V.v
 blk:Blk w V.v (dx V) 58
 master:Own w B 5 1 V.ma V.m.length V.mc (V.m.map bv)
 mz:V.m.length<=1000000
 rdl:RDL w B r V.R
 deeds:Own w B 40 15 V.da V.ds.length V.dc (eC V.ds)
 cnt:V.ds.length<=V.R.ls.length
 sep:∀x,oM V x->¬(eJ r x\/fW V.R x)
theorem vd {a:Lt} {n c k:Nat} (e:(Value.slice a n c).ownBlock=some k):atB a k:=by
 cases a with
 |none=>cases c<;>simp [Value.ownBlock] at e
 |some ad=>simp [Value.ownBlock] at e;exact ⟨ad,rfl,e.symm⟩
section
variable {w w' w1 w2:As} {B:Nat} {r r' r'':cz} {V V' V'':du}
theorem RVL.to0 (h:RVL w B r V):RV0 w B r V:=by
 have A:∀x,oM V x->kB V x:=fun x hx=>by
  rcases hx with hx|hx|hx
  .exact .inl hx
  .exact .inr (.inl hx)
  .exact .inr (.inr (.inl hx))
 exact ⟨h.vault.ge,h.vault.blk,h.vault.master,h.vault.mz,h.rdl,h.vault.deeds,h.vault.cnt,fun x hx=>fun C=>C.elim (h.sepd x (.inr (A x hx))) (h.sepl x (A x hx))⟩
theorem RV0.ltR (h:RV0 w B r V) {x:Nat} (hx:oM V x):B<=x/\x<w.heap.size:=by
 rcases hx with rfl|⟨C,A,rfl⟩|⟨C,A,rfl⟩
 .exact ⟨h.ge,h.blk.lt⟩
 .exact ⟨(h.master.block_lt A).1,(h.master.block_lt A).2.1⟩
 .exact ⟨(h.deeds.block_lt A).1,(h.deeds.block_lt A).2.1⟩
theorem RV0.lt (h:RV0 w B r V) {x:Nat} (hx:nh r V x):B<=x/\x<w.heap.size:=hx.elim h.rdl.lt h.ltR
theorem RV0.keep (h:RV0 w B r V) (A:∀x,nh r V x->w'.heap[x]? =w.heap[x]?):RV0 w' B r V:=
 ⟨h.ge,(A _ (.inr (.inl rfl))).trans h.blk,h.master.keepAt fun x hx=>A _ (.inr (.inr (.inl ⟨x,hx,rfl⟩))),h.mz,h.rdl.keep fun x hx=>A _ (.inl hx),h.deeds.keepAt fun x hx=>A _ (.inr (.inr (.inr ⟨x,hx,rfl⟩))),h.cnt,h.sep⟩
theorem RV0.old (h:RV0 w B r V) (A:Below w.heap.size w w'):RV0 w' B r V:=h.keep fun x hx=>A.block x (h.lt hx).2
structure gX (B:Nat) (w:As) (r:cz) (V:du) (w':As) (r':cz) (V':du):Prop where
 turn:aJ (nh r V) w w'
 at':RV0 w' B r' V'
 foot':∀x,nh r' V' x->nh r V x\/w.heap.size<=x
 d:r'.d=r.d
 v:V'.v=V.v
 m:V'.m=V.m
theorem gX.trans {C:As} (h:gX B w r V w' r' V') (h':gX B w' r' V' C r'' V''):gX B w r V C r'' V'':=
 ⟨h.turn.trans h'.turn h.foot',h'.at',fun x hx=>by
  rcases h'.foot' x hx with A|A
  .exact h.foot' x A
  .exact .inr (Vd h.turn.size A),h'.d.trans h.d,h'.v.trans h.v,h'.m.trans h.m⟩
theorem gX.old (h:RV0 w B r V) (A:Below w.heap.size w w'):gX B w r V w' r V:=⟨aJ.of_below A,h.old A,fun _ hx=> .inl hx,rfl,rfl,rfl⟩
theorem eZ.vault (A:eZ B w r V.R w' r' V'.R) (h:RV0 w B r V) (C:V'={V with R:=V'.R}) (L:V.ds.length<=V'.R.ls.length):gX B w r V w' r' V':=by
 have I:∀x,oM V' x↔oM V x:=fun x=>(by rw [C];rfl);have D:∀x,oM V x->w'.heap[x]? =w.heap[x]? :=fun x hx=>A.turn.block x (h.ltR hx).2 (h.sep x hx);have G:∀x,oM V x->¬(eJ r' x\/fW V'.R x):=fun x hx M=>by
  rcases A.foot' x M with F|F
  .exact h.sep x hx F
  .have:=(h.ltR hx).2;omega
 have J:RV0 w' B r' V':=by
  rw [C];refine ⟨h.ge,?_,h.master.keepAt fun x hx=>D _ (.inr (.inl ⟨x,hx,rfl⟩)),h.mz,A.at',h.deeds.keepAt fun x hx=>D _ (.inr (.inr ⟨x,hx,rfl⟩)),L,fun x hx=>G x hx⟩;have e:dx {V with R:=V'.R}=dx V:=(by unfold dx;dsimp only;rw [A.l]);rw [e];exact (D _ (.inl rfl)).trans h.blk
 refine ⟨A.turn.mono fun x hx=> .inl hx,J,fun x hx=> ?_,A.d,by rw [C],by rw [C]⟩;rcases hx with hx|hx
 .exact (A.foot' x hx).imp .inl id
 .exact .inl (.inr ((I x).1 hx))
theorem cj.vault (A:cj B w r w' r') (h:RV0 w B r V):gX B w r V w' r' V:=eZ.vault (cj.log A h.rdl) h rfl h.cnt
theorem yZ (h:RV0 w B r V):gX B w r V (w.setCell ⟨V.v,3,none⟩ (.bool true)) r {V with down:=true}:=by
 have A:∀x,x≠V.v->(w.setCell ⟨V.v,3,none⟩ (.bool true)).heap[x]? =w.heap[x]? :=fun x hx=>Vq w ⟨V.v,3,none⟩ x _ hx;have D:∀x,eJ r x\/fW V.R x->x≠V.v:=fun x hx e=>h.sep V.v (.inl rfl) (e▸hx);have F:RV0 (w.setCell ⟨V.v,3,none⟩ (.bool true)) B r {V with down:=true}:=by
  refine ⟨h.ge,?_,h.master.keepAt fun x hx=> ?_,h.mz,h.rdl.keep fun x hx=>A x (D x hx),h.deeds.keepAt fun x hx=> ?_,h.cnt,h.sep⟩
  .have:=h.blk.set 3 (.bool true);simpa [dx] using this
  .obtain ⟨_,_,G,C⟩:=h.master.block_lt hx;exact A _ (C.ne h.blk dcA)
  .obtain ⟨_,_,G,C⟩:=h.deeds.block_lt hx;exact A _ (C.ne h.blk dcA)
 exact ⟨(aJ.refl _ _).setCell (x:=⟨V.v,3,none⟩) (.inl (.inr (.inl rfl))) _,F,fun x hx=> .inl hx,rfl,rfl,rfl⟩
theorem CG (h:RV0 w B r V) (t:B<=w.heap.size) (x:ao) (C:aY) {w0:As} {b c2:Nat} (J:Below w.heap.size w w0) (h':Own w1 B 40 15 (some ⟨b,0,none⟩) (V.ds.length+1) c2 (eC V.ds++af x C)) (Z:w0.grownBy w1 (Value.slice V.da V.ds.length V.dc).ownBlock) (n:(∃G,V.da=some G/\b=G.block)\/w0.heap.size<=b) (q:V.ds.length<V.R.ls.length):
  gX B w r V (w1.setCell ⟨V.v,2,none⟩ (.slice (some ⟨b,0,none⟩) (V.ds.length+1) c2)) r {V with da:=some ⟨b,0,none⟩,dc:=c2,ds:=V.ds++ [(x,C)]}:=by
 have T:∀k,(Value.slice V.da V.ds.length V.dc).ownBlock=some k->atB V.da k:=fun k e=>vd e;have d:atB V.da b\/w.heap.size<=b:=n.imp id fun h=>Vd J.size h;have U:Blk w1 V.v (dx V) 58:=(h.blk.old J).grown Z fun e=>by
  obtain ⟨G,o,p⟩:=T _ e;obtain ⟨_,_,Y,f⟩:=h.deeds.block_lt o;exact Blk.ne f h.blk dcA p.symm
 have L:aJ (fun y=>y=V.v\/atB V.da y) w (w1.setCell ⟨V.v,2,none⟩ (.slice (some ⟨b,0,none⟩) (V.ds.length+1) c2)):=
  aJ.setCell (((aJ.of_below J).trans (aJ.of_grown (F:=fun y=>atB V.da y) Z T) fun k M=> .inl M).mono fun k M=> .inr M) (.inl (.inl rfl)) _
 have hin:∀y,(y=V.v\/atB V.da y)->oM V y:=fun y A=>A.elim .inl fun h=> .inr (.inr h);have c:∀y,y≠V.v->(w1.setCell ⟨V.v,2,none⟩ (.slice (some ⟨b,0,none⟩) (V.ds.length+1) c2)).heap[y]? =w1.heap[y]? :=fun y A=>Vq w1 ⟨V.v,2,none⟩ y _ A;have O:∀y,oM {V with da:=some ⟨b,0,none⟩,dc:=c2,ds:=V.ds++ [(x,C)]} y->oM V y\/w.heap.size<=y:=fun y A=>by
  rcases A with rfl|A|⟨G,N,rfl⟩
  .exact .inl (.inl rfl)
  .exact .inl (.inr (.inl A))
  .cases N;exact d.imp (fun h=> .inr (.inr h)) id
 have j:RV0 (w1.setCell ⟨V.v,2,none⟩ (.slice (some ⟨b,0,none⟩) (V.ds.length+1) c2)) B r {V with da:=some ⟨b,0,none⟩,dc:=c2,ds:=V.ds++ [(x,C)]}:=by
  refine ⟨h.ge,?_,h.master.keepAt fun y A=>L.block _ (h.master.block_lt A).2.1 fun D=> ?_,h.mz,h.rdl.keep fun y A=>L.block y (h.rdl.lt A).2 fun D=>h.sep y (hin y D) A,?_,soA,fun y A D=> ?_⟩
  .have:=U.set 2 (.slice (some ⟨b,0,none⟩) (V.ds.length+1) c2);simpa [dx] using this
  .obtain ⟨_,_,Y,I⟩:=h.master.block_lt A;rcases D with e|⟨G,N,e⟩
   .exact I.ne h.blk dcA e
   .obtain ⟨_,_,s,l⟩:=h.deeds.block_lt N;exact I.ne l dcA e
  .show Own _ B 40 15 _ (V.ds++ [(x,C)]).length c2 _;rw [show (V.ds++ [(x,C)]).length=V.ds.length+1 by simp,mw];exact h'.keepAt fun y A=>c _ (by
    obtain ⟨_,_,Y,I⟩:=h'.block_lt A;exact I.ne U dcA)
  .rcases O y A with g|g
   .exact h.sep y g D
   .have:=(h.rdl.lt D).2;omega
 refine ⟨L.mono fun y A=> .inr (hin y A),j,fun y A=> ?_,rfl,rfl,rfl⟩;rcases A with A|A
 .exact .inl (.inl A)
 .exact (O y A).imp .inr id
end
def EI (B:Nat) (w:As) (r:cz) (V:du) (x:ao) (xh:aY) (e:Ending) (w':As):Prop:=
 ∃(r':cz) (V':du),e= .returned (.int .i64 (kG r.p V.pv x))/\gX B w r V w' r' V'/\r'.p=qs r.p V.pv x/\V'.ds=(if kG r.p V.pv x=0 then V.ds++ [(x,xh)] else V.ds)/\V'.R.ls=jA r.p V.pv x/\V'.R.nm=V.R.nm/\V'.down=jB r.p V.pv x
theorem FH (V:du) (x:ao):jp V.pv x=Gf (aF V.ds) x:=rfl
theorem Cv (w:As) (B:Nat) (r:cz) (V:du) (h:RV0 w B r V) (hB:B<=w.heap.size) (x:ao) (D:aY) (hd:dp w x D) (F1:(bj x).length<=65504) (F2:(bZ x.act).length+5000<100000000):
  Calls prog 36 #[.pointer (some ⟨V.v,0,none⟩),dG x D] w (EI B w r V x D):=by
 obtain ⟨S,hS⟩:=At (EI B w r V x D);rw [<-hS];have HS:=Hd hS;clear hS;rw [aD];go_enter func36,ntmps36;go_upto_region 1 with fail;obtain ⟨X,hX⟩:=At w.heap.size;rw [<-hX];refine ag (fun W=>Blk W X (af x D).toArray 40/\Below w.heap.size w W) ⟨by rw [hX];exact Blk.new _ _ _,cL⟩ ?_;rintro W1 ⟨bX,A3⟩;have G2:w.heap.size<=X:=VM hX.symm;clear hX;have d:=h.old A3;have cd:W1.cell? ⟨V.v,3,none⟩=some (.bool V.down):=d.blk.cell rfl;cases o:V.down with
 |true=>
  rw [o] at cd;go_wp2_with fail;rw [HS.out];have nd:V.pv.down=true:=o;have C:kG r.p V.pv x=5:=(by unfold kG;rw [Vz nd]);exact ⟨r,V,by first|(rw [C];done)|(rw [C];rfl),gX.old h A3,by unfold qs;rw [Vz nd],by rw [C];rfl,by unfold jA;rw [Vz nd];rfl,rfl,by unfold jB;rw [Vz nd];exact o⟩
 |false=>
  rw [o] at cd;have nd:¬V.pv.down=true:=(by show ¬V.down=true;rw [o];simp);have B2:=Hd o;have F:=Hd nd;clear o nd;have F3:V.ds.length<=4096:=Vd h.cnt h.rdl.log.cnt;go_upto_region 3 with fail;clear cd;have L1:∀W,Old W1.drew W->∀i,W.cell? ⟨V.v,i,none⟩=(dx V)[i]? :=fun W T=>(d.blk.drew.old T).rule;have LX:=fun W (T:Old W1.drew W)=>(bX.drew.old T).cells;unfold dx at L1;have cl:=CE W1.drew V.ma V.m.length V.mc V.m V.da V.ds.length V.dc V.ds x D d.master.row.drew rfl h.mz d.deeds.row.drew rfl oA (hd.old A3.drew) F1 F2;refine aB (0::1::2::3::4::5::6::7::8::9::10::11::12::13::14::[]) krA krA cdA ?_
  repeat refine lxA ?_
  refine cR (v:= .agg (af x D).toArray) rfl rfl rfA (fun W T=>aI 40 aZ (.tmp 3) rfl rfl rfl (LX W T) rfl) ?_;simp only [Act.put,sTA,List.set];refine bh rfl rfl rfA (fun K U=> ?_);go_wp2_with fail;rw [aD] at cl;refine cl.mono ?_;clear cl;rintro e W2 ⟨la,lc,rfl,A4,B3⟩;go_wp2_with fail;refine U _ _ B3 ?_;clear U K L1 LX
  repeat refine lxA ?_
  refine bJ ?_;have C9:Below W1.heap.size W1 W2:=(VW _ _).drew.trans B3;have A1:=aa A3 C9;have h2:=h.old A1;have B4:Blk W2 X (af x D).toArray 40:=bX.drew.old B3;cases s:Gf (aF V.ds) x with
  |false=>
   have f:jp V.pv x=false:=s;have eE:ldE (aF V.ds) x=2:=(by unfold ldE;rw [VV (by rw [s];simp)]);rw [eE];have C:kG r.p V.pv x=2:=(by unfold kG;rw [VV F.out,Vz f]);have q:S (.returned (.int .i64 2)) W2:=by
    rw [HS.out];exact ⟨r,V,by rw [C],gX.old h A1,by unfold qs;rw [VV F.out,Vz f],by rw [C];rfl,by unfold jA;rw [VV F.out,Vz f];rfl,rfl,by unfold jB;rw [VV F.out,Vz f];exact B2.out⟩
   have Q:=Hd q;clear q C eE f s;go_wp2_with fail;exact Q.out
  |true=>
  have f:¬jp V.pv x=false:=(by rw [FH,s];simp);have eE:ldE (aF V.ds) x=0:=(by unfold ldE;rw [Vz s]);obtain ⟨L,hL⟩:=At (gO V.m (aF V.ds) x);have eL:ldL V.m (aF V.ds) x=L:=(by unfold ldL;rw [Vz s,hL]);have nl:¬65504<(bj x).length:=oA;rw [eE];rw [eL] at A4⊢;obtain ⟨Ln,C2⟩:∃n,L.length=n:=⟨_,rfl⟩;have D9:L≠ []->∀ad,la=some ad->¬(eJ r ad.block\/fW V.R ad.block):=fun _ ad e hf=>by
   have q1:=(A4.block_lt e).1;have q2:=(d.rdl.lt hf).2;have q3:W1.drew.heap.size=W1.heap.size:=rfl;omega
  have ca:=vr W2 B r V.R h2.rdl (Vd hB A1.size) la Ln lc L A4.row C2 D9;rw [C2] at A4⊢;have HL:=Hd (show L=gO V.pv.m V.pv.l x from hL);have J:=Hd f;have M:=Hd nl;clear hL C2 eL eE f nl s D9 A4;have c0:W2.cell? ⟨V.v,0,none⟩=some (.pointer (some ⟨V.R.l,0,none⟩)):=h2.blk.cell rfl;unfold zW at ca;go_wp2_with fail;refine ca.mono ?_;clear ca c0;rintro e W8 ⟨rfl,r8,G,EE,C3,-,A2⟩;obtain ⟨A,hA⟩:=At (iH r.p V.R L);have CW:V.ds.length<=G.ls.length:=by
   have q:=h.cnt;rw [C3];unfold mr;split
   .rw [laA];omega
   .exact q
  have EQ:gX B W2 r V W8 r8 {V with R:=G}:=eZ.vault (V:=V) (V':={V with R:=G}) A2 h2 rfl CW;have g:=(gX.old h A1).trans EQ;have E0:rJ r.p V.pv x=A:=(by unfold rJ;rw [<-HL.out,hA];rfl);have DO:G.ls=if A=0 then V.R.ls++ [L] else V.R.ls:=(by rw [C3,hA];rfl);have D0:G.nm=V.R.nm:=A2.nm;have C4:Blk W8 X (af x D).toArray 40:=(A2.turn.block X B4.lt fun hf=>by have:=(h.rdl.lt hf).2;omega).trans B4;have D1:¬(eJ r8 X\/fW G X):=fun hf=>by
   rcases A2.foot' X hf with q|q
   .have:=(h.rdl.lt q).2;omega
   .have:=B4.lt;omega
  have F4:=Hd D1;rw [<-hA];generalize oU r.p V.R L=ai;have HA:=Hd hA;have B5:=Hd E0;have E1:=Hd DO;have C5:=Hd EE;have B6:=Hd D0;have h8:=g.at';have B7:=h8.blk;clear D1 hA DO EE D0 E0 C3 bX B4 A2 EQ h2 B3 C9 d A3;by_cases O:A=0;rotate_left 1
  .have F5:(A==0)=false:=(by simpa using O);have Y:rJ r.p V.pv x≠0:=(by rw [B5.out];exact O);have C:kG r.p V.pv x=A:=(by unfold kG;rw [VV F.out,VV J.out,VV M.out,Vz Y,B5.out]);have D2:∀(V':du) (W':As),gX B w r V W' r8 V'->V'.ds=V.ds->V'.R=G->V'.down=decide (A≠3/\A≠100)->S (.returned (.int .i64 A)) W':=fun V' W' q1 q2 q3 q4=>by
    rw [HS.out];refine ⟨r8,V',by rw [C],q1,?_,by rw [C,VV O];exact q2,?_,by rw [q3];exact B6.out,?_⟩
    .unfold qs;rw [VV F.out,VV J.out,VV M.out,Vz Y,C5.out,HL.out];rfl
    .unfold jA;rw [VV F.out,VV J.out,VV M.out,Vz Y,q3,E1.out,VV O];rfl
    .unfold jB;rw [VV F.out,VV J.out,VV M.out,Vz Y,B5.out];exact q4
   have C0:=Hd D2;clear D2 C Y;by_cases c:A=3
   .have tA3:(A==3)=true:=(by simpa using c);have q:=Hd (C0.out _ _ g rfl rfl (by rw [VO (fun h=>h.1 c)];exact B2.out));have F6:=Hd O;have G3:=Hd c;clear O c;go_wp2_with fail;exact q.out
   .have tA3:(A==3)=false:=(by simpa using c);by_cases t:A=100
    .have tA1:(A==100)=true:=(by simpa using t);have q:=Hd (C0.out _ _ g rfl rfl (by rw [VO (fun h=>h.2 t)];exact B2.out));have F6:=Hd O;have G4:=Hd t;clear O t c;go_wp2_with fail;exact q.out
    .have tA1:(A==100)=false:=(by simpa using t);have G5:(A !=0)=true:=(by simpa using O);have q:=Hd (C0.out _ _ (g.trans (yZ h8)) rfl rfl (by rw [VK ⟨c,t⟩]));have F7:W8.cell? ⟨V.v,3,none⟩=some (.bool V.down):=B7.cell rfl;have G6:=B7.free;clear O c t;go_wp2_with fail;exact q.out
  .subst O;have F5:((0:Int)==0)=true:=rfl;have Y:¬rJ r.p V.pv x≠0:=(by rw [B5.out];simp);have D3:G.ls=V.R.ls++ [L]:=(by rw [E1.out,Vz rfl]);have cs:=Av W8 B r8 G h8.rdl (Vd hB g.turn.size);obtain ⟨E,hE⟩:=At ((et r8.p G.nm).2);rw [<-hE] at cs;have E2:(wU r.p V.pv x).2=E:=(by unfold wU;rw [hE,C5.out,B6.out,HL.out];rfl);have HE:=Hd hE;have B9:=Hd E2;have Z:=Hd Y;have C1:=Hd D3;have c0:W8.cell? ⟨V.v,0,none⟩=some (.pointer (some ⟨G.l,0,none⟩)):=B7.cell rfl;clear hE E2 Y D3;go_wp2_with fail;refine cs.mono ?_;clear cs c0;rintro e I ⟨rfl,r9,R9,C6,A0,-,A7⟩;have E3:gX B W8 r8 {V with R:=G} I r9 {V with R:=R9}:=eZ.vault (V:={V with R:=G}) (V':={V with R:=R9}) A7 h8 rfl (by rw [A0];exact CW);have A8:=g.trans E3;have h9:=A8.at';have E4:Blk I X (af x D).toArray 40:=(A7.turn.block X C4.lt F4.out).trans C4;have A9:R9.nm=V.R.nm:=A7.nm.trans B6.out;have BY:r9.p=(wU r.p V.pv x).1:=(by rw [C6];unfold wU;rw [C5.out,B6.out,HL.out];rfl);have A5:=h9.blk;by_cases A6:E=0;rotate_left 1
   .have tE:(E !=0)=true:=(by simpa using A6);have C:kG r.p V.pv x=E:=(by unfold kG;rw [VV F.out,VV J.out,VV M.out,VV Z.out,B9.out]);have q:S (.returned (.int .i64 E)) (I.setCell ⟨V.v,3,none⟩ (.bool true)):=by
     rw [HS.out];refine ⟨r9,_,by rw [C],A8.trans (yZ h9),?_,by rw [C,VV A6],?_,A9,?_⟩
     .unfold qs;rw [VV F.out,VV J.out,VV M.out,VV Z.out,BY]
     .unfold jA;rw [VV F.out,VV J.out,VV M.out,VV Z.out,HL.out.symm];exact A0.trans C1.out
     .unfold jB;rw [VV F.out,VV J.out,VV M.out,VV Z.out,B9.out,VK A6]
    have Q:=Hd q;have F7:I.cell? ⟨V.v,3,none⟩=some (.bool V.down):=A5.cell rfl;have G7:=A5.free;clear q C A6 BY A9 C6 A0;go_wp2_with fail;exact Q.out
   .subst A6;have tE:((0:Int) !=0)=false:=rfl;have C:kG r.p V.pv x=0:=(by unfold kG;rw [VV F.out,VV J.out,VV M.out,VV Z.out,B9.out]);have D4:B<=I.heap.size:=Vd hB A8.turn.size;have D5:V.ds.length<R9.ls.length:=by
     rw [A0,C1.out,laA,Xq];have:=h.cnt;omega
    have F8:=Hd BY;have E8:=Hd A9;have F9:=Hd A0;have C7:=Hd C;have G0:=Hd D5;clear BY A9 C6 A0 C A7 E3 C4 B7 h8 g D5 CW A1;go_upto_region 14 with fail;have E5:Own I.drew B 40 15 V.da V.ds.length V.dc (eC V.ds):=h9.deeds;obtain ⟨N,hN⟩:∃N,V.ds.length=N:=⟨_,rfl⟩;have M0:∀W,au (fun y=>y=V.v\/y=X) I.drew W->∀i,W.cell? ⟨V.v,i,none⟩=(#[.pointer (some ⟨R9.l,0,none⟩),.slice V.ma V.m.length V.mc,.slice V.da V.ds.length V.dc,.bool V.down]:AS)[i]? :=fun W T i=>(VE (a:=⟨V.v,i,none⟩) (T.2 V.v (.inl rfl))).trans (A5.rule i);have M1:∀W,au (fun y=>y=V.v\/y=X) I.drew W->∀j (hj:j<(af x D).length),W.cell? ⟨X,0+j,none⟩=some (af x D)[j]:=fun W T j hj=>(VE (a:=⟨X,0+j,none⟩) (T.2 X (.inr rfl))).trans (E4.cells j hj);rw [hN] at M0 E5 F3;have HN:=Hd hN;clear hN;refine ah true (au (fun y=>y=V.v\/y=X)) (au.refl _) (fun _ _ _ d h2=>au.trans d h2) (.step 0 (.step 1 (.step 2 (.step 3 (.step 4 (.step 5 (.step 6 (.step 7 (.step 8 (.step 9 (.step 10 .done))))))))))) krA krA cdA ?_
    repeat refine txA ?_
    refine bM (v:= .agg (af x D).toArray) rfl rfl rfA (fun W T=>aI 40 aZ _ rfl rfl rfl (M1 W T) rfl) ?_;simp only [Act.put,sTA,List.set];refine am rfl rfl rfA (fun K U=> ?_);have G1:(af x D).length=15:=rfl;have C8:=A5.lt;have E6:=E4.lt;go_wp2_with fail;rw [jT];refine U _ _ (au.below ((VW _ I.drew).alloc (VU _) _) fun y hy=>by rcases hy with rfl|rfl<;>assumption) ?_
    clear U K;refine am rfl rfl rfA (fun K U=> ?_);refine gA (.tmp 60) (.tmp 62) 23 rfl sG rfl (E5.alloc _) rfl (av.new' I.drew (af x D).toArray 40 _ rfl) rfA oA (by exact de _ rfl) mxA oA (by simp;exact YW D4) ?_;intro b2 c2 CK D6 B0 D7;have nv:¬atB V.da V.v:=fun ⟨ad,ha,e⟩=>by
     obtain ⟨_,_,G8,E9⟩:=h.deeds.block_lt ha;exact Blk.ne E9 h.blk dcA e.symm
    have nX:¬atB V.da X:=fun ⟨ad,ha,e⟩=>by
     have:=(h.deeds.block_lt ha).2.1;omega
    have B1:∀y,y<I.heap.size->¬atB V.da y->CK.heap[y]? =I.heap[y]? :=fun y hy hn=>(B0.block y soA fun e=>hn (vd e.symm)).trans (Vp _ _ _ hy);have D8:Blk CK V.v _ 58:=(B1 _ C8 nv).trans A5;refine U _ _ ⟨B0.size,fun y hy=> ?_⟩ ?_
    .rcases hy with rfl|rfl
     .exact (B1 _ C8 nv).trans (Vp _ _ _ C8).symm
     .exact (B1 _ E6 nX).trans (Vp _ _ _ E6).symm
    clear U K M0 M1
    repeat refine txA ?_
    have f10:=D8.free;have G9:CK.cell? ⟨V.v,2,none⟩=some (.slice V.da V.ds.length V.dc):=D8.cell rfl;have E7:=CG h9 D4 x D (w0:=I.drew.alloc (.cells (af x D).toArray 40)) (w1:=CK) (b:=b2) (c2:=c2) cL (by show Own _ _ _ _ _ (V.ds.length+1) _ _;rw [HN.out];exact D6) (by show World.grownBy _ _ (Value.slice V.da V.ds.length V.dc).ownBlock;rw [HN.out];exact B0) D7 G0.out;have F0:=A8.trans E7;clear E7 B0 D6 D7 B1;refine az rfl rfl rfA (fun K U=> ?_);go_wp2_with fail;refine aq ?_;go_wp2_with fail;rw [HS.out];rw [<-HN.out];refine ⟨r9,_,by first|(rw [C7.out];done)|(rw [C7.out];rfl),F0,?_,by rw [C7.out,Vz rfl],?_,E8.out,?_⟩
    .unfold qs;rw [VV F.out,VV J.out,VV M.out,VV Z.out,F8.out]
    .unfold jA;rw [VV F.out,VV J.out,VV M.out,VV Z.out,HL.out.symm];exact F9.out.trans C1.out
    .unfold jB;rw [VV F.out,VV J.out,VV M.out,VV Z.out,B9.out];exact B2.out
theorem av.keepZ {w w':As} {a:Lt} {vs:AT} (h:av w a vs) (C:∀x,atB a x->x<w.heap.size->w'.heap[x]? =w.heap[x]?):av w' a vs:=fun i D=>by
 obtain ⟨b,o,e,A⟩:=h i D;refine ⟨b,o,e,?_⟩;rw [VE (a:=⟨b,o+i,none⟩) (C b ⟨_,e,rfl⟩ (Vx w _ A))];exact A
theorem dp.keepZ {w w':As} {p:ao} {h:aY} (a:dp w p h) (A:∀x,qL h x->x<w.heap.size->w'.heap[x]? =w.heap[x]?):dp w' p h:=
 ⟨a.kind,a.game,a.table,a.fmt,a.n0,a.n1,⟨av.keepZ a.d0.1 fun x hx=>A x (.inl (.inl hx)),a.d0.2⟩,⟨av.keepZ a.d1.1 fun x hx=>A x (.inl (.inr (.inl hx))),a.d1.2⟩,⟨av.keepZ a.dr.1 fun x hx=>A x (.inl (.inr (.inr (.inl hx)))),a.dr.2⟩,
  ⟨a.act.op,a.act.side,a.act.place,a.act.target,⟨av.keepZ a.act.ids.1 fun x hx=>A x (.inl (.inr (.inr (.inr hx)))),a.act.ids.2⟩,⟨av.keepZ a.act.pairs.1 fun x hx=>A x (.inr hx),a.act.pairs.2⟩⟩⟩
def BE (S:Nat->Prop) (w:As) (ds:List (ao×aY)):Prop:=∀W,aJ S w W->∀y∈ds,dp W y.1 y.2
section
variable {w w' w1 w2:As} {B:Nat} {r r':aG} {R R':cz} {V V':aR} {Q Q':du} {nm:bB} {m:Le} {S S':Nat->Prop} {ds:List (ao×aY)}
theorem BE.step (h:BE S w ds) (A:aJ S w w') (C:∀x,S' x->S x\/w.heap.size<=x):BE S' w' ds:=fun W D=>h W (A.trans D C)
theorem RVL.kept (h:RVL w B R Q) {C:Nat} (F:∀x,S x->nh R Q x\/x<C) (G:∀x,kB Q x->C<=x):BE S w Q.ds:=fun W I y A=>(h.vault.each y A).keepZ fun x hx J=>I.block x J fun L=>by
 have D:kB Q x:= .inr (.inr (.inr ⟨y,A,hx⟩));obtain ⟨M,N,O⟩:=h.vault.sepi y A x hx;rcases F x L with ((g|g)|g|g|g)|g
 .exact h.sepd x (.inr D) g
 .exact h.sepl x D g
 .exact M g
 .exact O g
 .exact N g
 .have:=G x D;omega
structure DB (w:As) (B:Nat) (r:aG) (R:cz) (nm:bB):Prop where
 disk:aK w B r
 rdisk:cS w B R
 apart:∀x,fp r x->eJ R x->False
 eq:R.p=r.p
 one:np r.p nm
theorem DB.mid (h:DB w B r R nm) (A:bL B w r w1 r'):cS w1 B R:=h.rdisk.turn A.turn fun x hx C=>h.apart x C hx
theorem DB.old (h:DB w B r R nm) (A:Below w.heap.size w w'):DB w' B r R nm:=⟨h.disk.old A,h.rdisk.old A,h.apart,h.eq,h.one⟩
theorem DB.step (h:DB w B r R nm) (C:bL B w r w1 r') (D:cj B w1 R w2 R') (J:R'.p=r'.p) (I:np r'.p nm):DB w2 B r' R' nm:=by
 have a:∀x,fp r' x->eJ R x->False:=fun x hx A=>by
  rcases C.foot' x hx with F|F
  .exact h.apart x F A
  .have:=(h.rdisk.lt A).2;omega
 refine ⟨C.at'.turn D.turn fun x hx A=>a x hx A,D.at',fun x hx A=> ?_,J,I⟩;rcases D.foot' x A with G|G
 .exact a x hx G
 .have:=(C.at'.lt hx).2;omega
theorem DB.below (h:DB w B r R nm) (C:B<=w.heap.size) (A:bL B w r w1 r') (D:cj B w1 R w2 R'):Below B w w2:=
 (A.below h.disk C).trans (D.below (h.mid A) (Vd C A.turn.size))
structure gl (w:As) (B:Nat) (r:aG) (R:cz) (V:aR) (Q:du) (nm:bB) (m:Le):Prop where
 vl:VL w B r V
 rv:RV0 w B R Q
 apart:∀x,iT r V x->nh R Q x->False
 each:BE (fun x=>iT r V x\/nh R Q x) w Q.ds
 eq:R.p=r.p
 l:Q.l=V.l
 mq:V.m=m
 mq':Q.m=m
 ls:Q.R.ls=V.R.ls
 nq:V.R.nm=nm
 nq':Q.R.nm=nm
 down:Q.down=V.down
 one:np r.p nm
theorem gl.db (h:gl w B r R V Q nm m):DB w B r R nm:=⟨h.vl.disk,h.rv.rdl.disk,fun x hx A=>h.apart x (.inl hx) (.inl (.inl A)),h.eq,h.one⟩
theorem gl.old (h:gl w B r R V Q nm m) (A:Below w.heap.size w w'):gl w' B r R V Q nm m:=
 ⟨h.vl.old A,h.rv.old A,h.apart,h.each.step (aJ.of_below A) fun _ hx=> .inl hx,h.eq,h.l,h.mq,h.mq',h.ls,h.nq,h.nq',h.down,h.one⟩
theorem gl.drew (h:gl w B r R V Q nm m):gl w.drew B r R V Q nm m:=h.old (VW _ _).drew
theorem gl.mid (h:gl w B r R V Q nm m) (A:aJ (iT r V) w w1):RV0 w1 B R Q:=h.rv.keep fun x hx=>A.block x (h.rv.lt hx).2 fun C=>h.apart x C hx
theorem gl.turn (h:gl w B r R V Q nm m) (A:aJ (iT r V) w w1) (C:aJ (nh R Q) w1 w2):aJ (fun x=>iT r V x\/nh R Q x) w w2:=
 (A.mono fun _ hx=> .inl hx).trans C fun _ hx=> .inl (.inr hx)
theorem gl.below (h:gl w B r R V Q nm m) (A:B<=w.heap.size) (C:aJ (iT r V) w w1) (D:aJ (nh R Q) w1 w2):Below B w w2:=
 (h.turn C D).below (fun x hx=>hx.elim (fun g=>(h.vl.lt g).1) fun g=>(h.rv.lt g).1) A
theorem gl.step (h:gl w B r R V Q nm m) (A:ik B w r V w1 r' V') (C:gX B w1 R Q w2 R' Q') (L:Q'.ds=Q.ds\/∃y,Q'.ds=Q.ds++ [y]/\∀W,Below B w2 W->dp W y.1 y.2)
  (O:R'.p=r'.p) (l:Q'.l=V'.l) (ls:Q'.R.ls=V'.R.ls) (T:V'.R.nm=nm) (M:Q'.R.nm=nm) (U:Q'.down=V'.down) (N:np r'.p nm) (b:B<=w.heap.size):gl w2 B r' R' V' Q' nm m:=by
 have c:=A.turn.size;have d:=C.turn.size;have a:∀x,iT r' V' x->nh R Q x->False:=fun x hx F=>by
  rcases A.foot' x hx with I|I
  .exact h.apart x I F
  .have:=(h.rv.lt F).2;omega
 have G:VL w2 B r' V':=A.at'.keep fun x hx=>C.turn.block x (A.at'.lt hx).2 fun Y=>a x hx Y;refine ⟨G,C.at',fun x hx F=> ?_,?_,O,l,A.m.trans h.mq,C.m.trans h.mq',ls,T,M,U,N⟩
 .rcases C.foot' x F with h4|h4
  .exact a x hx h4
  .have:=(A.at'.lt hx).2;omega
 .have hk:BE (fun x=>iT r' V' x\/nh R' Q' x) w2 Q.ds:=h.each.step (h.turn A.turn C.turn) fun x hx=>by
   rcases hx with hx|hx
   .exact (A.foot' x hx).imp .inl id
   .rcases C.foot' x hx with g|g
    .exact .inl (.inr g)
    .exact .inr oA
  rcases L with e|⟨y,e,Z⟩
  .rw [e];exact hk
  .rw [e];intro W J z D;rcases Ve.1 D with D|D
   .exact hk W J z D
   .rw [VS.1 D];exact Z W (J.below (fun x hx=>hx.elim (fun g=>(G.lt g).1) fun g=>(C.at'.lt g).1) oA)
theorem gl.dstep (h:gl w B r R V Q nm m) (D:bL B w r w1 r') (F:cj B w1 R w2 R') (G:R'.p=r'.p) (C:np r'.p nm) (I:B<=w.heap.size):gl w2 B r' R' V Q nm m:=
 have A:=D.vault h.vl
 h.step A (F.vault (h.mid A.turn)) (.inl rfl) G h.l h.ls h.nq h.nq' h.down C I
theorem DB.open (h:DB w B r R nm) (F:bL B w r w1 r') (L:VL w1 B r' V) (T:∀x,dP V.R x\/ej V x->w.heap.size<=x) (G:cj B w1 R w2 R') (M:RVL w2 B R' Q) (D:∀x,fW Q.R x\/kB Q x->w1.heap.size<=x)
  (N:R'.p=r'.p) (l:Q.l=V.l) (Z:V.m=m) (U:Q.m=m) (ls:Q.R.ls=V.R.ls) (b:V.R.nm=nm) (Y:Q.R.nm=nm) (c:Q.down=V.down) (J:np r'.p nm):gl w2 B r' R' V Q nm m:=by
 have e:=F.turn.size;have f:=h.step F G N J;have I:∀x,iT r' V x->x<w1.heap.size:=fun x hx=>(L.lt hx).2;have O:∀x,iT r' V x->eJ R x->False:=fun x hx A=>by
  have:=(h.rdisk.lt A).2;rcases hx with hx|hx
  .rcases F.foot' x hx with g|g
   .exact h.apart x g A
   .omega
  .have:=T x hx;omega
 have d:∀x,oM Q x->kB Q x:=fun x hx=>by
  rcases hx with hx|hx|hx
  .exact .inl hx
  .exact .inr (.inl hx)
  .exact .inr (.inr (.inl hx))
 refine ⟨L.keep fun x hx=>G.turn.block x (I x hx) fun A=>O x hx A,M.to0,fun x hx A=> ?_,M.kept (C:=w1.heap.size) (fun x hx=> ?_) fun x hx=>D x (.inr hx),N,l,Z,U,ls,b,Y,c,J⟩
 .have:=I x hx;rcases A with (A|A)|A
  .rcases G.foot' x A with g|g
   .exact O x hx g
   .omega
  .have:=D x (.inl A);omega
  .have:=D x (.inr (d x A));omega
 .exact hx.elim (fun g=> .inr (I x g)) .inl
theorem Dv {p q:aN} {P Q:jo} (l:Le) (C:q=p) (A:Q.ls=P.ls) (D:Q.nm=P.nm):iH q Q l=iH p P l/\kq q Q l=kq p P l/\mr q Q l=mr p P l:=by
 have F:iH q Q l=iH p P l:=(by unfold iH;rw [C,A,D]);exact ⟨F,by unfold kq;rw [C,A,D],by unfold mr;rw [F,A]⟩
theorem gl.put (h:gl w B r R V Q nm m) (x:ao):kG R.p Q.pv x=kG r.p V x/\qs R.p Q.pv x=qs r.p V x/\jA R.p Q.pv x=jA r.p V x/\jB R.p Q.pv x=jB r.p V x:=by
 have C:Q.pv.m=V.m:=h.mq'.trans h.mq.symm;have A:Q.pv.l=V.l:=h.l;have D:Q.pv.down=V.down:=h.down;have F:Q.pv.R.ls=V.R.ls:=h.ls;have G:Q.pv.R.nm=V.R.nm:=h.nq'.trans h.nq.symm;obtain ⟨J,I,L⟩:=Dv (P:=V.R) (Q:=Q.pv.R) (gO V.m V.l x) h.eq F G;have a:rJ R.p Q.pv x=rJ r.p V x:=(by unfold rJ;rw [C,A,J]);have s:wU R.p Q.pv x=wU r.p V x:=(by unfold wU;rw [C,A,I,G]);have o:jp Q.pv x=jp V x:=(by unfold jp;rw [A]);refine ⟨?_,?_,?_,?_⟩
 .unfold kG;rw [D,o,a,s]
 .unfold qs;rw [D,o,a,s,C,A,I,h.eq]
 .unfold jA;rw [D,o,a,F,C,A]
 .unfold jB;rw [D,o,a,s]
end
end
section
open Go.ChangeShapes Go.WideShapes Go.ChangeAt Go.RowKit
instance:Inhabited ao:=⟨kE⟩
section
variable {H:Type} {enc:TypeId×Value->H} {P:Program} {w:As}
theorem mG.str {t:TypeId} {c:Value} (h:mG enc P w t [c]) (C:P.underlying t=some .string):∃s:ByteArray,c= .string s/\s.size<=140737488351232:=by
 obtain ⟨n,x,D,F⟩:=h;obtain ⟨s,A,hx,_⟩:=DataW.trod_string C D;simp at A;refine ⟨s,A,?_⟩;have:=F s.data.toList.length (by rw [hx];simp [DataW.weights]);rw [Xe] at this;exact this
end
section
variable {H:Type} {enc:TypeId×Value->H} {w:As}
theorem Em {cs:AT} (h:mG enc prog w 5 cs) (A:cs.length=1):∃y:UInt8,cs=[bv y]/\True:=by
 match cs,A with
 | [c],_=>
  obtain ⟨n,rfl,C⟩:=h.int underlying5;simp [Lit.wf,IntKind.min,IntKind.max,IntKind.signed,IntKind.bits] at C;refine ⟨UInt8.ofNat n.toNat,?_,trivial⟩;simp only [bv,Wy,ZA,Value.int.injEq,ZP];unfold U8;rw [ZZ];omega
theorem Bi {cs:AT} (h:mG enc prog w 130 cs) (A:cs.length=2):∃y:bB×Int,cs=dH y/\y.1.size<=140737488351232:=by
 have f0:=h.field underlying130 0 dcA;have f1:=h.field underlying130 1 dcA;have C:Tryz.prog.cellsOf 9=1:=(by kernel_rfl);have k1:Tryz.prog.cellsOf 3=1:=by kernel_rfl
 match cs,A with
 | [c0,c1],_=>
  simp [C,k1] at f0 f1;obtain ⟨s,rfl,D⟩:=f0.str underlying9;obtain ⟨n,rfl,_⟩:=f1.int underlying3;exact ⟨(s,n),rfl,D⟩
theorem mG.plan {c:Value} (h:mG enc prog w 47 [c]):∃a cp,∃l:ef,c= .slice a l.length cp/\av w a (l.flatMap dH)/\l.length*24<=140737488355328:=by
 obtain ⟨a,len,cap,rfl,M,N,C,D,F⟩:=h.slice underlying47;obtain ⟨l,G,I,_⟩:=pz (g:=dH) (Ok:=fun y=>y.1.size<=140737488351232) (fun _=>rfl) (show 0<2 by omega) (show Tryz.prog.cellsOf 130=2 by kernel_rfl) (fun cs J A=>Bi J A) C F;have L:Tryz.prog.bytesOf 130=24:=(by kernel_rfl);rw [L] at D;exact ⟨a,cap,l,by rw [G],I,oA⟩
end
structure GZ where
 kind:Int
 p:ao
 g:aY
 pa:Lt
 pc:Nat
 plan:ef
 n:Int
 xb:UInt8
instance:Inhabited GZ:=⟨⟨0,kE,dN,none,0,[],0,0⟩⟩
def fq (x:GZ):AT:= .int .i64 x.kind::(af x.p x.g++ [.slice x.pa x.plan.length x.pc,.int .i64 x.n,bv x.xb])
structure ET (w:As) (x:GZ):Prop where
 n:(Lit.int .i64 x.n).wf=true
 deed:dp w x.p x.g
 plan:av w x.pa (x.plan.flatMap dH)
 pl:x.plan.length*24<=140737488355328
section
variable {H:Type} {enc:TypeId×Value->H} {w:As}
theorem En {cs:AT} (h:mG enc prog w 77 cs) (F:cs.length=19):∃y:GZ,cs=fq y/\ET w y:=by
 have f0:=h.field underlying77 0 dcA;have f1:=h.field underlying77 1 dcA;have f2:=h.field underlying77 2 dcA;have f3:=h.field underlying77 3 dcA;have f4:=h.field underlying77 4 dcA;have G:Tryz.prog.cellsOf 3=1:=(by kernel_rfl);have k1:Tryz.prog.cellsOf 40=15:=(by kernel_rfl);have k2:Tryz.prog.cellsOf 47=1:=(by kernel_rfl);have k3:Tryz.prog.cellsOf 5=1:=by kernel_rfl
 match cs,F with
 | [c0,d0,d1,d2,d3,d4,d5,d6,d7,d8,d9,d10,d11,d12,d13,d14,c2,c3,c4],_=>
  simp [G,k1,k2,k3] at f0 f1 f2 f3 f4;obtain ⟨n0,rfl,_⟩:=f0.int underlying3;obtain ⟨p,g,e,I⟩:=El rfl f1;obtain ⟨J,C,L,rfl,M,D⟩:=f2.plan;obtain ⟨N,rfl,w3⟩:=f3.int underlying3;obtain ⟨y,A,-⟩:=Em f4 rfl;refine ⟨⟨n0,p,g,J,C,L,N,y⟩,?_,⟨w3,I,M,D⟩⟩;unfold fq;dsimp only;rw [<-e];simp at A;rw [A];rfl
def ES (w:As) (a:Lt) (n c:Nat) (l:List GZ):Prop:=av w a (l.flatMap fq)/\l.length=n/\n<=c/\c<=maxLen/\∀x∈l,ET w x
theorem Bk {v:Value} (h:mG enc prog w 75 [v]):∃a n c l,v= .slice a n c/\ES w a n c l:=by
 obtain ⟨a,len,cap,rfl,D,F,G,N,I⟩:=h.slice underlying75;obtain ⟨l,J,L,C⟩:=pz (g:=fq) (Ok:=ET w) (fun _=>rfl) (show 0<19 by omega) (show Tryz.prog.cellsOf 77=19 by kernel_rfl) (fun cs M A=>En M A) G I;exact ⟨a,len,cap,l,rfl,L,J,D,F,C⟩
end
theorem Nv:lY prog 77 19:=⟨⟨_,underlying77,rfl⟩,krA⟩
theorem wO {W:As} {X:Nat} {y:GZ} {t:TypeId} (h:Blk W X (fq y).toArray t):∀j (A:j<(af y.p y.g).length),W.cell? ⟨X,1+j,none⟩=some (af y.p y.g)[j]:=fun j A=>by
 have C:j<15:=A;rw [h.rule,Zx];simp only [List.getElem?_toArray];show ((af y.p y.g++_)[j]?)=_;rw [Vo A,VJ A]
theorem kP {P:Program} {A:Array Oper} {rest:List Oper} {o:Oper} {a:Act} {w:As} {Q:Exit->Act->World->Prop} (D:Region.wanted o (yielded A a.tmps)=true) (ty:TypeId) {n:Nat} (F:lY P ty n) (x:Operand) (G:o.op= .load ty x)
  {b C:Nat} (hx:a.eval x= .pointer (some ⟨b,C,none⟩)) {cs:AT} (I:∀j (h:j<cs.length),w.cell? ⟨b,C+j,none⟩=some cs[j]) (J:cs.length=n)
  (h:wpList P A Q rest (a.put o.dst (.agg cs.toArray)) w):wpList P A Q (o::rest) a w:=by
 unfold wpList;rw [Vz D];refine .inl ?_;unfold Oper.wp execOp;simp only [G,hx,Instr.loadAt,Instr.sureAddr,Wp,Xk,WE,dv F I J];exact h
end
section
open Go.RowKit Go.Maps
section
variable {w w' w1 w2:As} {B:Nat} {r r':aG} {R R':cz} {V V':aR} {Q Q':du} {nm:bB} {m:Le} {v wv:Value} {E:Int}
def PB (w:As) (B:Nat) (r:aG) (R:cz) (nm:bB) (m:Le) (v wv:Value) (E:Int):Prop:=
 (E≠0/\v= .pointer none/\wv= .pointer none/\DB w B r R nm)\/(E=0/\∃V Q,v= .pointer (some ⟨V.v,0,none⟩)/\wv= .pointer (some ⟨Q.v,0,none⟩)/\gl w B r R V Q nm m)
theorem PB.db (h:PB w B r R nm m v wv E):DB w B r R nm:=by
 rcases h with ⟨-,-,-,h⟩|⟨-,V,Q,-,-,h⟩
 .exact h
 .exact h.db
theorem PB.old (h:PB w B r R nm m v wv E) (F:Below w.heap.size w w'):PB w' B r R nm m v wv E:=by
 rcases h with ⟨A,C,D,h⟩|⟨A,V,Q,C,D,h⟩
 .exact .inl ⟨A,C,D,h.old F⟩
 .exact .inr ⟨A,V,Q,C,D,h.old F⟩
theorem PB.drew (h:PB w B r R nm m v wv E):PB w.drew B r R nm m v wv E:=h.old (VW _ _).drew
theorem PB.dstep (h:PB w B r R nm m v wv E) (G:bL B w r w1 r') (I:cj B w1 R w2 R') (J:R'.p=r'.p) (F:np r'.p nm) (L:B<=w.heap.size):PB w2 B r' R' nm m v wv E:=by
 rcases h with ⟨A,C,D,h⟩|⟨A,V,Q,C,D,h⟩
 .exact .inl ⟨A,C,D,h.step G I J F⟩
 .exact .inr ⟨A,V,Q,C,D,h.dstep G I J F L⟩
def VO1 (B:Nat) (w:As) (r:aG) (nm:bB) (m:Le) (v:Value) (N:Int) (w1:As):Prop:=pF B w r nm m (.returned (.tuple #[v,.int .i64 N,.int .i64 (kA r.p nm m)])) w1
theorem pP {e:Ending} (h:pF B w r nm m e w1):∃v N,e= .returned (.tuple #[v,.int .i64 N,.int .i64 (kA r.p nm m)])/\VO1 B w r nm m v N w1/\∃r',bL B w r w1 r':=by
 have A:=h;obtain ⟨r',G,C,F⟩:=h;rcases F with ⟨D,rfl⟩|⟨D,V,rfl,-⟩
 .exact ⟨_,_,rfl,A,r',C⟩
 .have e1:(Ending.returned (.tuple #[.pointer (some ⟨V.v,0,none⟩),.int .i64 (pQ r.p nm m:Int),.int .i64 0]))= .returned (.tuple #[.pointer (some ⟨V.v,0,none⟩),.int .i64 (pQ r.p nm m:Int),.int .i64 (kA r.p nm m)]):=(by rw [D]);rw [e1] at A⊢;exact ⟨_,_,rfl,A,r',C⟩
theorem Fc {p:aN} {nm:bB} {m:Le} (h:np p nm):np (rD p nm m) nm:=by
 have A:=qw h;have C:np (eh p nm m).1 nm:=by
  unfold eh;exact zM _ A
 unfold rD;split
 .exact A
 .split
  .exact A
  .split
   .exact C
   .exact qw C
theorem DB.open2 (h:DB w B r R nm) (o:B<=w.heap.size) {v:Value} {N:Int} (q:VO1 B w r nm m v N w1) {e:Ending} (s:iC B w1 R nm m e w2):
  ∃wv r' R',e= .returned (.tuple #[wv,.int .i64 N,.int .i64 (kA r.p nm m)])/\PB w2 B r' R' nm m v wv (kA r.p nm m)/\r'.d=r.d/\R'.d=R.d/\Below B w w2:=by
 obtain ⟨r',T,D,t⟩:=q;obtain ⟨R',U,F,G⟩:=s;rw [h.eq] at U G;have L:np r'.p nm:=(by rw [T];exact Fc h.one);have M:R'.p=r'.p:=(by rw [T,U]);have O:=h.below o D F;rcases t with ⟨A,C⟩|⟨A,V,C,hV,hm,hl,c,f,g,hf⟩
 .rcases G with ⟨-,J⟩|⟨I,-⟩
  .simp only [Ending.returned.injEq,Value.tuple.injEq,Array.mk.injEq,Wy,Value.int.injEq,ZP,ZA] at C;obtain ⟨rfl,rfl⟩:=C;exact ⟨_,r',R',J,.inl ⟨A,rfl,rfl,h.step D F M L⟩,D.d,F.d,O⟩
  .exact absurd I A
 .rcases G with ⟨I,-⟩|⟨-,Q,J,hQ,j,l,Y,Z,b,n⟩
  .exact absurd A I
  .rw [A] at C;simp only [Ending.returned.injEq,Value.tuple.injEq,Array.mk.injEq,Wy,Value.int.injEq,ZP,ZA] at C;obtain ⟨rfl,rfl⟩:=C;refine ⟨_,r',R',by rw [A];exact J,.inr ⟨A,V,Q,rfl,rfl,?_⟩,D.d,F.d,O⟩;exact h.open D hV hf F hQ n M (l.trans hl.symm) hm j (Y.trans c.symm) f Z (b.trans g.symm) L
theorem Dw (p:aN) (P:jo) (l:Le):dd (kq p P l)=dd p:=by
 unfold kq;split
 .rfl
 .split
  .rfl
  .exact sR _ _ _
theorem FI (p:aN) (V:aR) (x:ao):dd (qs p V x)=dd p:=by
 have A:=Dw p V.R (gO V.m V.l x);unfold qs;split
 .rfl
 .split
  .rfl
  .split
   .rfl
   .split
    .exact A
    .exact (yR _ _).trans A
theorem gl.put2 (h:gl w B r R V Q nm m) (M:B<=w.heap.size) {x:ao} {N:aY} {e O:Ending} (f:KW B w r V x e w1) (g:EI B w1 R Q x N O w2) (j:∀W,Below B w2 W->dp W x N):
  e= .returned (.int .i64 (kG r.p V x))/\O= .returned (.int .i64 (kG r.p V x))/\(∃r' R' V' Q',gl w2 B r' R' V' Q' nm m/\r'.d=r.d/\R'.d=R.d/\V'.v=V.v/\Q'.v=Q.v)/\Below B w w2:=by
 obtain ⟨r',V',rfl,A,J,c,U,Y,Z⟩:=f;obtain ⟨R',Q',T,C,L,D,G,b,I⟩:=g;obtain ⟨n,o,q,s⟩:=h.put x;rw [n] at T D;rw [o] at L;rw [q] at G;rw [s] at I;refine ⟨rfl,T,⟨r',R',V',Q',h.step A C ?_ (by rw [J,L]) ?_ (by rw [U,G]) (Y.trans h.nq) (b.trans h.nq') (by rw [Z,I]) ?_ M,A.d,C.d,A.v,C.v⟩,h.below M A.turn C.turn⟩
 .rw [D];split
  .exact .inr ⟨_,rfl,j⟩
  .exact .inl rfl
 .rw [c];unfold du.l;rw [D];have F:=h.l;unfold du.l at F;split
  .rw [aF,VF];show aF Q.ds++ [x]=_;rw [F]
  .exact F
 .rw [J];exact h.one.of_names (FI _ _ _)
end
structure DX (w W:As) (X:Nat) (y:GZ) (r:aG) (R:cz) (nm:bB):Prop where
 db:DB W w.heap.size r R nm
 blk:Blk W X (fq y).toArray 77
 off:¬fp r X/\¬eJ R X
 below:Below w.heap.size w W
section
variable {w W W1 W2:As} {X:Nat} {y:GZ} {r r':aG} {R R':cz} {nm:bB}
theorem DX.old (h:DX w W X y r R nm) (A:Below W.heap.size W W1):DX w W1 X y r R nm:=⟨h.db.old A,h.blk.old A,h.off,aa h.below A⟩
theorem DX.mid (h:DX w W X y r R nm) (A:bL w.heap.size W r W1 r'):cS W1 w.heap.size R/\Blk W1 X (fq y).toArray 77/\Below w.heap.size w W1:=
 ⟨h.db.mid A,(A.turn.block X h.blk.lt h.off.1).trans h.blk,h.below.trans (A.below h.db.disk h.below.size)⟩
theorem DX.step (h:DX w W X y r R nm) (A:bL w.heap.size W r W1 r') (C:cj w.heap.size W1 R W2 R') (I:R'.p=r'.p) (G:np r'.p nm):DX w W2 X y r' R' nm:=by
 have F:=h.mid A;have J:=A.turn.size;have L:=h.blk.lt;refine ⟨h.db.step A C I G,(C.turn.block X F.2.1.lt h.off.2).trans F.2.1,⟨fun D=> ?_,fun D=> ?_⟩,h.below.trans (h.db.below h.below.size A C)⟩
 .rcases A.foot' X D with g|g
  .exact h.off.1 g
  .omega
 .rcases C.foot' X D with g|g
  .exact h.off.2 g
  .omega
end
section
variable {w w':As} {B X:Nat} {r:aG} {R:cz} {nm:bB} {m:Le} {v wv:Value} {E:Int}
def PX (w:As) (B X:Nat) (r:aG) (R:cz) (nm:bB) (m:Le) (v wv:Value) (E:Int):Prop:=
 PB w B r R nm m v wv E/\(¬fp r X/\¬eJ R X)/\(E=0->∃V Q,v= .pointer (some ⟨V.v,0,none⟩)/\wv= .pointer (some ⟨Q.v,0,none⟩)/\gl w B r R V Q nm m/\¬iT r V X/\¬nh R Q X)
theorem PX.of (h:PB w B r R nm m v wv E) (L:w.heap.size<=X) (C:Below w.heap.size w w'):PX w' B X r R nm m v wv E:=by
 have D:=h.db;refine ⟨h.old C,⟨fun A=> ?_,fun A=> ?_⟩,fun F=> ?_⟩
 .have:=(D.disk.lt A).2;omega
 .have:=(D.rdisk.lt A).2;omega
 .rcases h with ⟨G,-⟩|⟨-,V,Q,I,J,h⟩
  .exact absurd F G
  .exact ⟨V,Q,I,J,h.old C,fun A=>(by have:=(h.vl.lt A).2;omega),fun A=>(by have:=(h.rv.lt A).2;omega)⟩
theorem PX.old (h:PX w B X r R nm m v wv E) (A:Below w.heap.size w w'):PX w' B X r R nm m v wv E:=
 ⟨h.1.old A,h.2.1,fun C=>by obtain ⟨V,Q,D,F,G,I⟩:=h.2.2 C;exact ⟨V,Q,D,F,G.old A,I⟩⟩
end
def Km (b:Bool):Int:=if b then 0 else 4
theorem Ae {w w':As} {B d:Nat} {V:aR} {n:Int} {e:Ending} (h:aP w B d V) (A:sW w V n e w'):
  ∃(b:Bool) (a:Lt) (c:Nat) (ds:List (ao×aY)),e= .returned (.tuple #[.slice a ds.length c,.int .i64 (Km b)])/\aF ds=ofG V.l n/\iL w' a ds/\Below w.heap.size w w'/\b=decide (0<(ofG V.l n).length):=by
 unfold sW at A;split at A
 .rename_i hin;obtain ⟨a,c,ds,rfl,F,G,C⟩:=A;refine ⟨true,a,c,ds,rfl,F,G.at,C,?_⟩;have:=h.good.pos (g:=n.toNat) oA;rw [Zq hin.1,fl] at this;rw [VK this]
 .rename_i hin;obtain ⟨rfl,C⟩:=A;have D:ofG V.l n=[]:=by
   by_cases I:0<=n
   .exact h.good.none oA
   .unfold ofG;rw [Xo];intro x hx e;have:=h.good.range x hx;have:=Wu e;omega
  exact ⟨false,none,0,[],rfl,D.symm,⟨av.nil _ _,fun x hx=>(by cases hx)⟩,C,by rw [D];rfl⟩
def fm (d:Nat):cz:={d:=d,la:=none,lc:=0,fs:=[],down:=false,armed:=false,left:=0,pa:=none,pc:=0,plan:=[]}
theorem AN (w:As):cS (w.alloc (.cells (cF (fm w.heap.size)) 49)) w.heap.size (fm w.heap.size):=by
 refine ⟨VU _,Blk.new _ _ _,Own.nil _ _ _ _,fun f A=>by simp [fm] at A,Own.nil _ _ _ _,?_⟩;exact ⟨List.nodup_nil,fun f A=>by simp [cz.p,fm] at A,fun f A=>by simp [cz.p,fm] at A,fun f A=>by simp [cz.p,fm] at A,by simp [cz.p,fm],by simp [cz.p,fm]⟩
theorem vQ {d y:Nat} (h:eJ (fm d) y):y=d:=by
 rcases h with rfl|⟨C,A,rfl⟩|⟨f,D,_⟩|⟨C,A,rfl⟩
 .rfl
 .simp [fm] at A
 .simp [fm] at D
 .simp [fm] at A
theorem DB.new {w w1:As} {r:aG} {nm:bB} (A:r.p=wk0) (C:aK w1 w.heap.size r) (D:w.heap.size<=w1.heap.size):DB (w1.alloc (.cells (cF (fm w1.heap.size)) 49)) w.heap.size r (fm w1.heap.size) nm:=
 ⟨C.alloc _,(AN w1).lower D,fun x F G=>by have:=vQ G;have:=(C.lt F).2;omega,by rw [A];rfl,by rw [A];intro f I;simp [wk0] at I⟩
theorem EB {w:As} {a:Lt} {l:Le} (h:aj w a l) {F:Nat->Prop} (I:∀x,F x->w.heap.size<=x):l≠ []->∀A,a=some A->¬F A.block:=fun D A e J=>by
 obtain ⟨N,O,C,G⟩:=h 0 (by rw [lmA];exact XB.2 D);rw [e] at C;cases C;have L:=Vx w _ G;have M:=I _ J;simp at L M;omega
def Ha:AS:= #[.int .i64 0,.int .i8 0,.int .i64 0,.int .i64 0,.string ⟨#[]⟩,.string ⟨#[]⟩,.string ⟨#[]⟩,.slice none 0 0,.slice none 0 0,.slice none 0 0,.int .i8 0,.int .i64 0,.int .i64 0,.int .i64 0,.slice none 0 0,.slice none 0 0,.slice none 0 0,.int .i64 0,.int .u8 0]
def NK (w:As) (d D:Nat) (nm:bB) (m:Le) (n f:Nat) (v e wv i:Value) (wr:As):Prop:=
 ∃(k:Nat) (r:aG) (R:cz) (E:Int),k+f=n/\i= .int .i64 (k:Int)/\e= .int .i64 E/\PB wr w.heap.size r R nm m v wv E/\r.d=d/\R.d=D/\Below w.heap.size w wr
theorem rE (nm:bB) (ma:Lt) (mn mc:Nat) (m:Le) (a:Lt) (n c:Nat) (l:List GZ) (w:As) (C4:aj w ma m) (HV:m.length=mn) (h:ES w a n c l):
  Calls prog 8 #[.string nm,.slice ma mn mc,.slice a n c] w fun e w'=>e= .returned (.bool true)/\Below w.heap.size w w':=by
 obtain ⟨J7,HW,O1,O2,K6⟩:=h;have K7:=Hd HW;clear HW;by_cases hn:n<=60;rotate_left 1
 .have t1:decide ((60:Int)<(n:Int))=true:=soA;go_enter func8,ntmps8;go_wp2_with fail;refine (lw _).mono ?_;rintro e wz ⟨rfl,BY⟩;have CK:Below w.heap.size w wz:=(VW w.heap.size w).trans (BY.mono (VW w.heap.size w).size);go_wp2_with fail;go_ret;exact ⟨rfl,CK⟩
 have t1:decide ((60:Int)<(n:Int))=false:=soA;by_cases hs:nm.size<=200;rotate_left 1
 .have t3:decide ((200:Int)<(nm.size:Int))=true:=soA;go_enter func8,ntmps8;go_wp2_with fail;refine (lw _).mono ?_;rintro e wz ⟨rfl,BY⟩;have CK:Below w.heap.size w wz:=(VW w.heap.size w).trans (BY.mono (VW w.heap.size w).size);go_wp2_with fail;go_ret;exact ⟨rfl,CK⟩
 have t3:decide ((200:Int)<(nm.size:Int))=false:=soA;by_cases F:mn<=200;rotate_left 1
 .have t5:decide ((200:Int)<(mn:Int))=true:=soA;go_enter func8,ntmps8;go_wp2_with fail;refine (lw _).mono ?_;rintro e wz ⟨rfl,BY⟩;have CK:Below w.heap.size w wz:=(VW w.heap.size w).trans (BY.mono (VW w.heap.size w).size);go_wp2_with fail;go_ret;exact ⟨rfl,CK⟩
 have t5:decide ((200:Int)<(mn:Int))=false:=soA;have J8:=Hd hn;have HS:=Hd (show nm.size<=maxLen by unfold maxLen;omega);have HM:=Hd (show mn<=1000000 by omega);have EQ:=Hd HV;clear hn hs F HV;go_enter func8,ntmps8;go_wp2_with fail;refine (ui w).mono ?_;rintro e w1 ⟨r1,rfl,A0,HX,F8⟩;clear t1 t3 t5;go_upto_region 4 with fail;obtain ⟨D,hD⟩:=At w1.heap.size;rw [<-hD];refine ag (fun W=>DB W w.heap.size r1 (fm D) nm/\Below w.heap.size w W) ⟨by rw [hD];exact DB.new A0.out HX F8.size,aa F8 ((VW _ _).alloc (VU _) _)⟩ ?_;rintro w2 ⟨B4,A7⟩;have C5:(fm D).d=D:=rfl;clear hD A0 HX F8;generalize fm D=R1 at*;obtain ⟨d,hd⟩:∃d,r1.d=d:=⟨_,rfl⟩;have co:=mI w2 w.heap.size r1 nm B4.disk A7.size HS.out ma mn mc m (C4.below A7) EQ.out HM.out (EB C4 fun x hx=>(B4.disk.lt hx).1);rw [hd] at co⊢;go_wp2_with fail;refine co.mono ?_;clear co;intro e w3 D2;obtain ⟨v,N,rfl,B5,r',CW⟩:=pP D2;have F9:=B4.mid CW;have z3:w.heap.size<=w3.heap.size:=Vd A7.size CW.turn.size;have C6:=CW.below B4.disk A7.size;have cq:=rX w3 w.heap.size R1 nm F9 z3 HS.out (by rw [B4.eq];exact B4.one) ma mn mc m (fun W ht=>C4.below (A7.trans (C6.trans (ht.below (fun x hx=>(F9.lt hx).1) z3)))) EQ.out HM.out;rw [C5] at cq;clear D2 CW F9;generalize G:kA r1.p nm m=E at*;go_wp2_with fail;refine cq.mono ?_;clear cq;intro e w4 D3;obtain ⟨wv,r5,R5,rfl,C7,B6,B7,L⟩:=B4.open2 A7.size B5 D3;rw [G] at C7⊢;have HY:NK w d D nm m n n v (.int .i64 E) wv (.int .i64 0) w4:=⟨0,r5,R5,E,oA,rfl,rfl,C7,B6.trans hd,B7.trans C5,A7.trans L⟩;clear B5 D3 C7 B6 B7 L G B4 C6 z3 A7 hd C5;go_wp2_with fail;go_loopg [9,11,12,69] n (fun f v e wv i wr=>NK w d D nm m n f v e wv i wr)
 case atStart=>exact HY
 case round=>
  clear HY;obtain ⟨k,r,R,E,hk,rfl,rfl,hP,HZ,C5,hb⟩:=hrel;have HK:=Hd hk;have A1:=Hd HZ;have A2:=Hd C5;clear hk HZ C5;by_cases K8:k<n
  .have t4:decide ((k:Int)<(n:Int))=true:=soA;have G0:k<l.length:=(by rw [K7.out];exact K8);obtain ⟨b,o,D4,O3,hc⟩:=av.elem (g:=fq) (sz:=19) (fun _=>rfl) (J7.below hb) oA k G0;have T:=K6 _ (VQ G0);generalize l[k]'G0=y at hc T;rw [D4];go_upto_region 11 with (first|refine dZ rfl 77 Nv _ rfl rfl rfl hc rfl ?_|refine ae rfl 77 Nv (.tmp 16) _ rfl rfl rfl (Blk.new wr Ha 77) rfl rfl rfl ?_);obtain ⟨X,hX⟩:=At wr.heap.size;rw [<-hX];refine ag (fun W=>Blk W X (fq y).toArray 77/\Below wr.heap.size wr W) ⟨by rw [hX];exact (Blk.new wr Ha 77).setRow _,by rw [hX];exact ak ((VW _ wr).alloc (VU _) _) (VU _) _⟩ ?_;rintro w3 ⟨bX,C6⟩;have K9:wr.heap.size<=X:=VM hX.symm;have F3:=aa hb C6;have H0:=PX.of hP K9 C6;clear hX hc t4;obtain ⟨gf,O4⟩:∃z,gk=z+1:=⟨gk-1,by have:=HK.out;omega⟩;have E0:=Hd (show k+1+gf=n by have:=HK.out;omega);have N9:k+1<=9223372036854775807:=(by have:=J8.out;omega);obtain ⟨cB,H1⟩:=At ((decide (E≠0/\y.kind<2)||lj y.p));have E1:=Hd H1;clear H1;dsimp only [Act.put];go_cut [84] from 73 to 83 (fun LA wx=>LA= .bool cB/\Below w3.heap.size w3 wx)
   case first=>
    have c0:w3.cell? ⟨X,0,none⟩=some (.int .i64 y.kind):=bX.cell rfl;have cg:=Ad y.p y.g w3 (T.deed.old F3);rw [aD] at cg;have H2:=wO bX;by_cases G:E=0
    .have tE:(E !=0)=false:=(by simpa using G);have HB:=Hd (show cB=lj y.p by rw [E1.out,VO (fun h=>h.1 G)];rfl);clear G;go_wp2_with (refine kP rfA 40 aZ (.tmp 81) rfl rfl H2 rfl ?_);refine cg.mono ?_;rintro e w4 ⟨rfl,B9⟩;rw [<-HB.out];go_wp2_with fail;go_meet
     case rel=>exact ⟨rfl,B9⟩
    .have tE:(E !=0)=true:=(by simpa using G);by_cases C8:y.kind<2
     .have t2:decide (y.kind<2)=true:=(by simpa using C8);have HB:=Hd (show cB=true by rw [E1.out,VK ⟨G,C8⟩];rfl);clear G C8;go_wp2_with fail;go_meet
      case rel=>exact ⟨by rw [HB.out],VW _ _⟩
     .have t2:decide (y.kind<2)=false:=(by simpa using C8);have HB:=Hd (show cB=lj y.p by rw [E1.out,VO (fun h=>C8 h.2)];rfl);clear G C8;go_wp2_with (refine kP rfA 40 aZ (.tmp 81) rfl rfl H2 rfl ?_);refine cg.mono ?_;rintro e w4 ⟨rfl,B9⟩;rw [<-HB.out];go_wp2_with fail;go_meet
      case rel=>exact ⟨rfl,B9⟩
   case rest=>
   obtain ⟨rfl,B9⟩:=hcut;have A4:=aa F3 B9;have A8:=H0.old B9;have s:=bX.old B9;clear bX H0 F3 C6 B9 hP hb;cases cB with
   |true=>
    as_aux_lemma=>
     go_wp2_with fail;rw [<-D4];go_roundg gf
     case measure=>omega
     case rel=>exact ⟨k+1,r,R,E,E0.out,gnA,rfl,A8.1,A1.out,A2.out,A4⟩
   |false=>
   have c0:wc.cell? ⟨X,0,none⟩=some (.int .i64 y.kind):=s.cell rfl;have H3:¬(E≠0/\y.kind<2)/\lj y.p=false:=by
    have e:=E1.out;rw [eq_comm,ZV] at e;exact ⟨ZY e.1,e.2⟩
   have E2:=Hd H3;clear H3;by_cases C1:E≠0/\y.kind=5
   .as_aux_lemma=>
     have tE:(E !=0)=true:=(by simpa using C1.1);have u0:(y.kind==0)=false:=(by rw [C1.2];rfl);have u3:(y.kind==3)=false:=(by rw [C1.2];rfl);have u5:(y.kind==5)=true:=(by rw [C1.2];rfl);clear C1;go_wp2_with fail;rw [<-D4];go_roundg gf
     case measure=>omega
     case rel=>exact ⟨k+1,r,R,E,E0.out,gnA,rfl,A8.1,A1.out,A2.out,A4⟩
   have LB:=Hd C1;clear C1;go_upto_block 2 with fail;clear c0;go_cut [9,10,11,12,13,14,17,18,19,20,21] from 87 to 254 (fun v _ e wv _ _ _ _ _ _ _ wx=>∃(r':aG) (R':cz) (E':Int),e= .int .i64 E'/\PB wx w.heap.size r' R' nm m v wv E'/\r'.d=d/\R'.d=D/\Below w.heap.size w wx)
   case first=>
    have D1:=A8.2.1;have H4:y.n<=9223372036854775807:=by
     have h1:=T.n;simp [Lit.wf,IntKind.min,IntKind.max,IntKind.signed,IntKind.bits] at h1;exact h1.2
    by_cases k0:y.kind=0
    .as_aux_lemma=>
      have u0:(y.kind==0)=true:=(by simpa using k0);obtain rfl:E=0:=by
       by_cases G:E=0
       .exact G
       .exact absurd ⟨G,oA⟩ E2.out.1
      clear k0;obtain ⟨V,Q,rfl,rfl,Y,B5,H5⟩:=A8.2.2 rfl;have H6:=s.lt;go_upto_region 30 with fail;have A9:=Y.drew;have B0:=A4.drew;have LX:∀W,au (fun z=>z=X) wc.drew W->∀j (hj:j<(af y.p y.g).length),W.cell? ⟨X,1+j,none⟩=some (af y.p y.g)[j]:=fun W C=>wO (t:=77) ((C.2 X rfl).trans s);have cp:=tm wc.drew w.heap.size r V A9.vl B0.size y.p y.g (fun W ht=>T.deed.old (B0.trans (ht.below (fun x hx=>(A9.vl.lt hx).1) B0.size))) (KT E2.out.2);rw [aD] at cp;refine ah false (au (fun z=>z=X)) (au.refl _) (fun _ _ _ h1 h2=>au.trans h1 h2) (.step 0 (.step 1 (.step 2 (.step 4 (.step 5 (.step 6 (.step 3 (.step 7 (.step 8 .done))))))))) krA krA cdA ?_
      repeat refine txA ?_
      refine bM (v:= .agg (af y.p y.g).toArray) rfl rfl rfA (fun W C=>aI 40 aZ (.tmp 184) rfl rfl rfl (LX W C) rfl) ?_;simp only [Act.put,sTA,List.set]
      repeat refine txA ?_
      refine bM (v:= .agg (af y.p y.g).toArray) rfl rfl rfA (fun W C=>aI 40 aZ (.tmp 188) rfl rfl rfl (LX W C) rfl) ?_;simp only [Act.put,sTA,List.set];refine am rfl rfl rfA (fun K A=> ?_);go_wp2_with fail;refine cp.mono ?_;clear cp;intro e M A0;have J9:=A0;obtain ⟨r5,V5,rfl,C2,-⟩:=J9;have L0:=A9.mid C2.turn;have L:=B0.trans (C2.below A9.vl B0.size);refine A _ _ ⟨C2.turn.size,fun z hz=>by subst hz;exact C2.turn.block _ H6 B5⟩ ?_;clear A K;have L3:X<M.heap.size:=VP H6 C2.turn.size;have cq:=Cv M w.heap.size R Q L0 L.size y.p y.g (T.deed.old L) (Vd (GH E2.out.2) oA) (by have h1:=(ut E2.out.2).1;have h2:=EF y.p.act;omega);rw [aD] at cq;refine am rfl rfl rfA (fun K A=> ?_);go_wp2_with fail;refine cq.mono ?_;clear cq;intro e w6 D5;have K0:=D5;obtain ⟨O5,O6,-,E3,-⟩:=K0;obtain ⟨-,rfl,⟨r6,R6,V6,Q6,h6,d1,d2,d3,d4⟩,B1⟩:=A9.put2 B0.size A0 D5 (fun W C=>T.deed.old ((B0.trans (A9.below B0.size C2.turn E3.turn)).trans C));refine A _ _ ⟨E3.turn.size,fun z hz=>by subst hz;exact E3.turn.block _ L3 H5⟩ ?_;have C3:=B0.trans B1;clear A K LX A0 D5 C2 E3
      repeat refine txA ?_
      refine aq ?_;go_wp2_with fail;go_meet
      case rel=>exact ⟨r6,R6,0,rfl,.inr ⟨rfl,V6,Q6,by rw [d3],by rw [d4],h6⟩,d1.trans A1.out,d2.trans A2.out,C3⟩
    have u0:(y.kind==0)=false:=(by simpa using k0);clear k0;by_cases k3:y.kind=3
    .as_aux_lemma=>
      have u3:(y.kind==3)=true:=(by simpa using k3);clear k3;have ON:=T.n;go_upto_region 33 with fail;have H7:=A8.1.drew;have J:DX w wc.drew X y r R nm:=⟨H7.db,s,D1,A4.drew⟩;have L4:av wc.drew y.pa (y.plan.flatMap dH):=T.plan.below A4.drew;have D6:y.plan≠ []->∀O,y.pa=some O->O.block<w.heap.size:=fun A3 O ha=>by
       obtain ⟨b',o',e,G1⟩:=T.plan 0 (by rw [ld];have:=XB.2 A3;omega);rw [ha] at e;cases e;exact Vx w _ G1
      have L5:rO R.p y.n y.plan=rO r.p y.n y.plan:=(by rw [J.db.eq]);have ca:=KR wc.drew w.heap.size r y.n y.pa y.plan.length y.pc y.plan J.db.disk J.below.size H4 L4 rfl T.pl;obtain ⟨ve,G2⟩:=At ((rO r.p y.n y.plan).2);rw [<-G2,A1.out] at ca;have LN:∀W,au (fun z=>z=X) wc.drew W->W.cell? ⟨X,17,none⟩=some (.int .i64 y.n):=fun W C=>(show Blk W X (fq y).toArray 77 from (C.2 X rfl).trans s).cell rfl;have LP:∀W,au (fun z=>z=X) wc.drew W->W.cell? ⟨X,16,none⟩=some (.slice y.pa y.plan.length y.pc):=fun W C=>(show Blk W X (fq y).toArray 77 from (C.2 X rfl).trans s).cell rfl;refine ah false (au (fun z=>z=X)) (au.refl _) (fun _ _ _ h1 h2=>au.trans h1 h2) (.step 0 (.step 1 (.step 2 (.step 3 (.step 4 (.step 6 (.step 7 (.step 8 (.step 9 (.step 10 (.step 5 (.step 11 (.step 12 .done))))))))))))) krA krA cdA ?_
      repeat refine txA ?_
      refine am rfl rfl rfA (fun K A=> ?_);go_wp2_with fail;refine ca.mono ?_;clear ca;rintro e w1 ⟨rfl,r1,A0,s1⟩;have F:=J.mid s1;refine A _ _ ⟨s1.turn.size,fun z hz=>by subst hz;exact s1.turn.block _ s.lt D1.1⟩ ?_;clear A K;have Z:=FG w1 w.heap.size R y.n y.pa y.plan.length y.pc y.plan F.1 F.2.2.size H4 (T.plan.below F.2.2) rfl T.pl (fun A3 O ha e=>by have:=D6 A3 O ha;have:=J.db.rdisk.ged;omega);rw [L5,<-G2,A2.out] at Z;clear G2;refine am rfl rfl rfA (fun K A=> ?_);go_wp2_with fail;refine Z.mono ?_;clear Z;rintro e w2 ⟨rfl,I,D5,s2⟩;refine A _ _ ⟨s2.turn.size,fun z hz=>by subst hz;exact s2.turn.block _ F.2.1.lt D1.2⟩ ?_;clear A K LN LP;have L6:=H7.dstep s1 s2 (by rw [D5,A0]) (by rw [A0];exact J.db.one.of_names (KQ _ _ _)) A4.size
      repeat refine txA ?_
      refine aq ?_;go_wp2_with fail;go_meet
      case rel=>exact ⟨r1,I,E,rfl,L6,s1.d.trans A1.out,s2.d.trans A2.out,F.2.2.trans (s2.below F.1 F.2.2.size)⟩
    have u3:(y.kind==3)=false:=(by simpa using k3);clear k3;by_cases k5:y.kind=5
    .as_aux_lemma=>
      have u5:(y.kind==5)=true:=(by simpa using k5);obtain rfl:E=0:=by
       by_cases G:E=0
       .exact G
       .exact absurd ⟨G,k5⟩ LB.out
      clear k5;obtain ⟨V,Q,rfl,rfl,Y,B5,H5⟩:=A8.2.2 rfl;have tE:((0:Int) !=0)=false:=rfl;have cN:wc.cell? ⟨X,17,none⟩=some (.int .i64 y.n):=s.cell rfl;have cv:=BR wc w.heap.size r.d V Y.vl.vault y.n T.n;go_wp2_with fail;refine cv.mono ?_;clear cv cN;intro e M hg;obtain ⟨bg,a1,c1,ds,rfl,G3,H8,L,H9⟩:=Ae Y.vl.vault hg;clear hg;have G4:=Y.old L;have ID:=s.old L;have C9:Q.ds.length<=1000000:=Vd Y.rv.cnt (Vd Y.rv.rdl.log.cnt oA);have G5:aF Q.ds=V.l:=Y.l;have L7:sv Q.ds y.n=sv Q.ds y.n:=rfl;obtain ⟨os,D7⟩:=At (sv Q.ds y.n);have E4:aF os=ofG V.l y.n:=(by rw [D7,su,G5]);have IF:os.length<=Q.ds.length:=(by rw [D7];exact YU _ _);have IN:∀x∈os,x∈Q.ds:=fun x hx=>(by rw [D7] at hx;exact (Vy.1 hx).1);have E5:ds.length=os.length:=(by have e:=WS List.length (G3.trans E4.symm);rwa [aF,aF,lmA,lmA] at e);have G6:bg=decide (0<os.length):=(by rw [H9,<-E4,aF,lmA]);have I0:aF ds=aF os:=G3.trans E4.symm;obtain ⟨K2,E6⟩:∃k,os.length=k:=⟨_,rfl⟩;rw [E6] at E5 G6 IF;rw [E5];have K1:=Hd E5;have L8:=Hd E6;have I1:=Hd G6;have L9:=Hd I0;have M0:=Hd G5;have M1:=Hd IN;have OR:K2<=1000000:=oA;clear G3 H9 I0 E5 G6 G5 IN E4 IF L7;go_upto_region 38 with fail;have F4:=G4.drew;have HP:=ID.drew;have L1:∀W,Old M.drew W->∀i,W.cell? ⟨Q.v,i,none⟩=(dx Q)[i]? :=fun W C=>(F4.rv.blk.old C).rule;have LN:∀W,Old M.drew W->W.cell? ⟨X,17,none⟩=some (.int .i64 y.n):=fun W C=>(HP.old C).cell rfl;unfold dx at L1;have co:=tM M.drew Q.da Q.ds.length Q.dc Q.ds y.n F4.rv.deeds.row rfl C9;rw [<-D7,E6] at co;have EE:=aa A4 L;clear D7 E6;refine aB (0::1::2::3::4::5::6::7::[]) krA krA cdA ?_
      repeat refine lxA ?_
      refine bh rfl rfl rfA (fun K A=> ?_);go_wp2_with fail;refine co.mono ?_;clear co;rintro e w6 ⟨a2,c2,rfl,I2,B1⟩;go_wp2_with fail;refine A _ _ B1 ?_;clear A K L1 LN
      repeat refine lxA ?_
      refine bJ ?_;have F5:Below M.heap.size M w6:=(VW _ _).drew.trans B1;have M2:=G4.old F5;have C3:=aa EE F5;go_upto_region 39 with fail;have A5:=M2.drew;have HQ:iL w6.drew a1 ds:=H8.old F5.drew;have cs:=sA w6.drew a1 a2 K2 K2 c1 c2 ds os HQ ⟨I2.row.drew,fun x hx=>A5.each _ (aJ.refl _ _) x (M1.out x hx)⟩ K1.out L8.out oA oA;rw [VK L9.out] at cs;have cg:=fun W (h:aP W w.heap.size r.d V)=>rS W w.heap.size r.d V h;have cr:=fun W (h:av W Q.da (eC Q.ds))=>nJ W Q.da Q.ds.length Q.dc Q.ds h rfl C9;rw [M0.out] at cr;have L1:∀W,Old w6.drew W->∀i,W.cell? ⟨Q.v,i,none⟩=(dx Q)[i]? :=fun W C=>(A5.rv.blk.old C).rule;unfold dx at L1;clear HQ I2 H8 G4 F4 L B1 ID HP Y s A8;cases bg with
      |true=>
       rw [show Km true=0 from rfl];have t0:decide (0<K2)=true:=I1.out.symm;refine bR (0::1::2::3::4::5::6::7::8::9::10::11::12::13::14::15::16::17::18::19::20::21::23::24::25::26::22::27::28::29::[]) krA krA cdA ?_
       iterate 10 (refine eA (v:= ?_) rfl rfl krA ?_ ?_;rotate_left;(intro W C;go_simp);(try with_reducible rfl);simp only [Act.put,sTA,List.set])
       iterate 2 (refine zJ rfl krA ?_;simp only [Act.put,sTA,List.set])
       iterate 5 (refine eA (v:= ?_) rfl rfl krA ?_ ?_;rotate_left;(intro W C;go_simp);(try with_reducible rfl);simp only [Act.put,sTA,List.set])
       refine bV rfl rfl krA (fun K A=> ?_);go_wp2_with fail;refine cs.mono ?_;clear cs;rintro e W7 ⟨rfl,U⟩;go_wp2_with fail;refine A _ _ U ?_;clear A K L1;have L1:∀W,Old W7 W->∀i,W.cell? ⟨Q.v,i,none⟩=(dx Q)[i]? :=fun W C=>((A5.old U).rv.blk.old C).rule;unfold dx at L1
       iterate 8 (refine eA (v:= ?_) rfl rfl krA ?_ ?_;rotate_left;(intro W C;go_simp);(try with_reducible rfl);simp only [Act.put,sTA,List.set])
       refine bV rfl rfl krA (fun K A=> ?_);go_wp2_with fail;refine (cg W7 (A5.old U).vl.vault).mono ?_;clear cg;rintro e W8 ⟨rfl,B2⟩;go_wp2_with fail;refine A _ _ B2 ?_;clear A K;refine bV rfl rfl krA (fun K A=> ?_);go_wp2_with fail;refine (cr W8 ((A5.old U).old B2).rv.deeds.row).mono ?_;clear cr;rintro e W9 ⟨rfl,rfl⟩;go_wp2_with fail;refine A _ _ (VW _ _) ?_;clear A K L1
       iterate 2 (refine eA (v:= ?_) rfl rfl krA ?_ ?_;rotate_left;(intro W C;go_simp);(try with_reducible rfl);simp only [Act.put,sTA,List.set])
       refine eS ?_;have G7:=(A5.old U).old B2;have F6:=aa (aa C3.drew U) B2;go_wp2_with fail;go_meet
       case rel=>exact ⟨r,R,0,rfl,.inr ⟨rfl,V,Q,rfl,rfl,G7⟩,A1.out,A2.out,F6⟩
      |false=>
       rw [show Km false=4 from rfl];have t0:decide (0<K2)=false:=I1.out.symm;refine bR (0::1::2::3::4::5::6::7::8::9::10::11::12::13::14::15::16::17::18::19::20::21::23::24::25::26::22::27::28::29::[]) krA krA cdA ?_
       iterate 10 (refine eA (v:= ?_) rfl rfl krA ?_ ?_;rotate_left;(intro W C;go_simp);(try with_reducible rfl);simp only [Act.put,sTA,List.set])
       iterate 2 (refine eA (v:= ?_) rfl rfl krA ?_ ?_;rotate_left;(intro W C;go_simp);(try with_reducible rfl);simp only [Act.put,sTA,List.set])
       iterate 5 (refine eA (v:= ?_) rfl rfl krA ?_ ?_;rotate_left;(intro W C;go_simp);(try with_reducible rfl);simp only [Act.put,sTA,List.set])
       refine bV rfl rfl krA (fun K A=> ?_);go_wp2_with fail;refine cs.mono ?_;clear cs;rintro e W7 ⟨rfl,U⟩;go_wp2_with fail;refine A _ _ U ?_;clear A K L1;have L1:∀W,Old W7 W->∀i,W.cell? ⟨Q.v,i,none⟩=(dx Q)[i]? :=fun W C=>((A5.old U).rv.blk.old C).rule;unfold dx at L1
       iterate 8 (refine eA (v:= ?_) rfl rfl krA ?_ ?_;rotate_left;(intro W C;go_simp);(try with_reducible rfl);simp only [Act.put,sTA,List.set])
       refine bV rfl rfl krA (fun K A=> ?_);go_wp2_with fail;refine (cg W7 (A5.old U).vl.vault).mono ?_;clear cg;rintro e W8 ⟨rfl,B2⟩;go_wp2_with fail;refine A _ _ B2 ?_;clear A K;refine bV rfl rfl krA (fun K A=> ?_);go_wp2_with fail;refine (cr W8 ((A5.old U).old B2).rv.deeds.row).mono ?_;clear cr;rintro e W9 ⟨rfl,rfl⟩;go_wp2_with fail;refine A _ _ (VW _ _) ?_;clear A K L1
       iterate 2 (refine eA (v:= ?_) rfl rfl krA ?_ ?_;rotate_left;(intro W C;go_simp);(try with_reducible rfl);simp only [Act.put,sTA,List.set])
       refine eS ?_;have G7:=(A5.old U).old B2;have F6:=aa (aa C3.drew U) B2;go_wp2_with fail;go_meet
       case rel=>exact ⟨r,R,0,rfl,.inr ⟨rfl,V,Q,rfl,rfl,G7⟩,A1.out,A2.out,F6⟩
    have u5:(y.kind==5)=false:=(by simpa using k5);clear k5
    as_aux_lemma=>
     have c0:wc.cell? ⟨X,0,none⟩=some (.int .i64 y.kind):=s.cell rfl;have J:DX w wc X y r R nm:=⟨A8.1.db,s,D1,A4⟩;obtain ⟨b2,A7⟩:∃b2,(y.kind==2)=b2:=⟨_,rfl⟩;go_upto_if 89 with fail;clear A7 c0 s A8 A4 D1;go_cut [] from 90 to 101 (fun wx=>∃(r2:aG) (I:cz),DX w wx X y r2 I nm/\r2.d=d/\I.d=D)
     case first=>
      as_aux_lemma=>
       cases b2 with
       |false=>
        go_wp2_with fail;go_meet
        case rel=>exact ⟨r,R,J,A1.out,A2.out⟩
       |true=>
        have D6:y.plan≠ []->∀O,y.pa=some O->O.block<w.heap.size:=fun A3 O ha=>by
         obtain ⟨b',o',e,G1⟩:=T.plan 0 (by rw [ld];have:=XB.2 A3;omega);rw [ha] at e;cases e;exact Vx w _ G1
        have I3:y.plan.length<=maxLen:=(by have:=T.pl;unfold maxLen;omega);have ca:=qZ wc w.heap.size r y.pa y.plan.length y.pc y.plan J.db.disk J.below.size (T.plan.below J.below) rfl I3 (fun O ha A3 f hf e=>by have:=(J.db.disk.files f hf).ge;have:=D6 A3 O ha;omega) (fun O ha A3=>VP (D6 A3 O ha) J.below.size);have cP:wc.cell? ⟨X,16,none⟩=some (.slice y.pa y.plan.length y.pc):=J.blk.cell rfl;rw [A1.out] at ca;go_wp2_with fail;refine ca.mono ?_;clear ca cP;rintro e w1 ⟨r1,rfl,A0,s1⟩;have F:=J.mid s1;have cP:w1.cell? ⟨X,16,none⟩=some (.slice y.pa y.plan.length y.pc):=F.2.1.cell rfl;have Z:=si w1 w.heap.size R y.pa y.plan.length y.pc y.plan F.1 F.2.2.size (T.plan.below F.2.2) rfl I3 (fun A3 O ha M3 M4 e=>by have:=(J.db.rdisk.lt (.inr (.inl ⟨M3,M4,rfl⟩))).1;have:=D6 A3 O ha;omega);rw [A2.out] at Z;go_wp2_with fail;refine Z.mono ?_;clear Z cP;rintro e w2 ⟨R1,rfl,M5,s2⟩;have h2:=J.step s1 s2 (by rw [M5,A0,J.db.eq]) (by rw [A0];exact J.db.one.of_names (wG _ _));have d1:=s1.d.trans A1.out;have d2:=s2.d.trans A2.out;have co:=zt w2 w.heap.size r1 h2.db.disk;rw [d1] at co;go_wp2_with fail;refine co.mono ?_;clear co;rintro e w3 ⟨rfl,r3,I4,s3⟩;have cr:=CB w3 w.heap.size R1 (h2.mid s3).1;rw [d2] at cr;go_wp2_with fail;refine cr.mono ?_;clear cr;rintro e w4 ⟨rfl,R4,C9,s4⟩;have h4:=Hd (h2.step s3 s4 (by rw [C9,I4,h2.db.eq]) (by rw [I4];exact h2.db.one.of_names (Da _)));go_wp2_with fail;go_meet
        case rel=>exact ⟨r3,R4,h4.out,s3.d.trans d1,s4.d.trans d2⟩
     case rest=>
     obtain ⟨r2,I,B3,I5,G8⟩:=hcut;have E8:=Hd I5;have D8:=Hd G8;have Z:=qk wc w.heap.size I nm B3.db.rdisk;have BY:=jM B3.db.rdisk.ok nm;rw [G8] at Z;clear I5 G8 J A1 A2;go_wp2_with fail;refine Z.mono ?_;clear Z;rintro e M ⟨ba,bn,bc,rfl,E9,C0,L⟩;rw [E9] at BY;obtain ⟨bl,HR⟩:=At ((bN I.p nm).1);rw [<-HR] at C0 E9;generalize (bN I.p nm).2=g5;have G9:=Hd E9;clear E9 HR;have h5:=B3.old L;go_upto_region 19 with fail;obtain ⟨cC,I6⟩:=At (decide (y.kind=4/\g5=0/\0<=y.n/\y.n<(bn:Int)/\I.armed=false));have DO:=Hd I6;clear I6;go_cut [133] from 108 to 132 (fun K3 wx=>K3= .bool cC/\wx=M)
     case first=>
      as_aux_lemma=>
       have c0:M.cell? ⟨X,0,none⟩=some (.int .i64 y.kind):=h5.blk.cell rfl;have cN:M.cell? ⟨X,17,none⟩=some (.int .i64 y.n):=h5.blk.cell rfl;have cA:M.cell? ⟨D,2,none⟩=some (.bool I.armed):=(by rw [<-D8.out];exact h5.db.rdisk.blk.cell rfl);by_cases a1:y.kind=4;rotate_left 1
       .have HC:=Hd (show cC=false by rw [DO.out];exact VO fun h=>a1 h.1);have t1:(y.kind==4)=false:=(by simpa using a1);clear a1;go_wp2_with fail;go_meet
        case rel=>exact ⟨by rw [HC.out],rfl⟩
       have t1:(y.kind==4)=true:=(by simpa using a1);by_cases a2:g5=0;rotate_left 1
       .have HC:=Hd (show cC=false by rw [DO.out];exact VO fun h=>a2 h.2.1);have t2:(g5==0)=false:=(by simpa using a2);clear a1 a2;go_wp2_with fail;go_meet
        case rel=>exact ⟨by rw [HC.out],rfl⟩
       have t2:(g5==0)=true:=(by simpa using a2);by_cases a3:0<=y.n;rotate_left 1
       .have HC:=Hd (show cC=false by rw [DO.out];exact VO fun h=>a3 h.2.2.1);have t3:decide (0<=y.n)=false:=(by simpa using a3);clear a1 a2 a3;go_wp2_with fail;go_meet
        case rel=>exact ⟨by rw [HC.out],rfl⟩
       have t3:decide (0<=y.n)=true:=(by simpa using a3);by_cases a4:y.n<(bn:Int);rotate_left 1
       .have HC:=Hd (show cC=false by rw [DO.out];exact VO fun h=>a4 h.2.2.2.1);have t4:decide (y.n<(bn:Int))=false:=(by simpa using a4);clear a1 a2 a3 a4;go_wp2_with fail;go_meet
        case rel=>exact ⟨by rw [HC.out],rfl⟩
       have t4:decide (y.n<(bn:Int))=true:=(by simpa using a4);have HC:=Hd (show cC= !I.armed by
        rw [DO.out];cases I.armed with
        |true=>exact VO fun h=>by cases h.2.2.2.2
        |false=>exact VK ⟨a1,a2,a3,a4,rfl⟩)
       clear a1 a2 a3 a4;generalize I.armed=ar at*;cases ar
       all_goals
        go_wp2_with fail
        go_meet
        case rel=>exact ⟨by rw [HC.out];rfl,rfl⟩
     case rest=>
     obtain ⟨rfl,I7⟩:=hcut;rw [I7];clear I7;go_step;go_cut [] from 134 to 156 (fun wx=>∃(r2:aG) (I:cz),DX w wx X y r2 I nm/\r2.d=d/\I.d=D)
     case first=>
      as_aux_lemma=>
       cases cC with
       |false=>
        go_wp2_with fail;go_meet
        case rel=>exact ⟨r2,I,h5,E8.out,D8.out⟩
       |true=>
        obtain ⟨-,-,M6,M7,-⟩:=Wu DO.out.symm;obtain ⟨q,hq⟩:∃q:Nat,y.n=(q:Int):=⟨y.n.toNat,oA⟩;have F0:q<bn:=oA;have K4:∃g,ba=some ⟨g,0,none⟩:=by
         rcases C0.2 with ⟨h1,h2⟩|⟨g,cap,M8,h1,h2,h3,h4⟩
         .exact absurd h2 oA
         .exact ⟨g,by cases h1;rfl⟩
        obtain ⟨g,rfl⟩:=K4;obtain ⟨HA,F1,M8,HD⟩:=C0.block_lt rfl;dsimp only at HA F1 HD;have D9:=C0.cell q (by rw [lmA,G9.out];exact F0);rw [WL] at D9;have F2:q<bl.length:=(by rw [G9.out];exact F0);generalize bl[q]=x at D9;unfold bv at D9;have M9:∀W,Old M.drew W->W.cell? ⟨X,17,none⟩=some (.int .i64 (q:Int)):=fun W C=>(by rw [<-hq];exact (h5.blk.drew.old C).cell rfl);have NE:∀W,Old M.drew W->W.cell? ⟨X,18,none⟩=some (.int .u8 (U8 y.xb)):=fun W C=>(h5.blk.drew.old C).cell rfl;have Lq:∀W,Old M.drew W->W.cell? ⟨g,q,none⟩=some (.int .u8 (U8 x)):=fun W C=>(C.cell (p:=⟨g,q,none⟩) F1).trans D9;have d5:(0:Int)<=(q:Int):=oA;have d6:(q:Int)<(bn:Int):=oA;have fg:=HD.drew.free;have cq:=Lq M.drew (Old.refl _);have I8:=my (U8 x) (U8 y.xb);have HT:∀v:UInt8,(∃l2:Le,l2.length=bn/\aj (M.drew.setCell ⟨g,q,none⟩ (.int .u8 (U8 v))) (some ⟨g,0,none⟩) l2)/\DX w (M.drew.setCell ⟨g,q,none⟩ (.int .u8 (U8 v))) X y r2 I nm:=fun v=>
         ⟨⟨bl.set q v,by rw [XZ,G9.out],by
          have:=C0.drew.set q F0 (.int .u8 (U8 v));unfold aj;rw [show (bl.set q v).map bv=(bl.map bv).set q (.int .u8 (U8 v)) by rw [List.map_set];rfl];exact this.row⟩,B3.old (L.drew.setCell (p:=⟨g,q,none⟩) HA _)⟩
        have F7:=Hd HT;have I9:¬fp r2 g/\¬eJ I g:=⟨fun hf=>by have:=(B3.db.disk.lt hf).2;omega,fun hf=>by have:=(B3.db.rdisk.lt hf).2;omega⟩;have HF:=Hd I9;have N0:=Hd F1;have O0:=h5.db;clear F2 M6 M7 hq F0 C0 D9 HD HA F1 HT I9 h5 L B3;go_upto_region 20 with fail;refine ah true Old Old.refl Old.trans (.step 0 (.step 1 (.step 2 (.step 3 (.step 4 (.step 5 (.step 6 (.step 7 (.step 8 (.step 9 .done)))))))))) krA krA cdA ?_
        repeat refine txA ?_
        refine az rfl rfl rfA (fun K A=> ?_);go_wp2_with fail;refine aq ?_;go_upto_region 21 with fail;refine ag (fun W=>((∃l2:Le,l2.length=bn/\aj W (some ⟨g,0,none⟩) l2)/\DX w W X y r2 I nm)/\g<W.heap.size) ⟨by first|exact F7.out _|(rw [I8];exact F7.out _),by simp;exact N0.out⟩ ?_;rintro w6 ⟨⟨⟨l2,J0,J1⟩,h6⟩,HG⟩;have J2:=Hd J0;have J3:bn<=maxLen:=mxA;clear J0 I8 F7 M9 NE Lq fg cq;have ca:=yk w6 w.heap.size r2 nm 0 h6.db.disk HS.out;rw [E8.out] at ca;go_wp2_with fail;refine ca.mono ?_;clear ca;rintro e w7 ⟨rfl,r7,HH,s7⟩;have N1:aj w7 (some ⟨g,0,none⟩) l2:=av.keepAt J1 fun O e=>(by cases e;exact s7.turn.block g HG HF.out.1);have Z:=sS w7 w.heap.size r7 nm s7.at' (Vd h6.below.size s7.turn.size) HS.out (some ⟨g,0,none⟩) bn bc l2 N1 J2.out J3;rw [s7.d,E8.out] at Z;go_wp2_with fail;refine Z.mono ?_;clear Z;rintro e w8 ⟨rfl,r8,HI,s8⟩;have D0:=s7.trans s8;have F:=h6.mid D0;have N2:aj w8 (some ⟨g,0,none⟩) l2:=av.keepAt J1 fun O e=>(by cases e;exact D0.turn.block g HG HF.out.1);have N3:g<w8.heap.size:=VP HG D0.turn.size;have cc:=tS w8 w.heap.size I nm 0 F.1 F.2.2.size;rw [D8.out] at cc;go_wp2_with fail;refine cc.mono ?_;clear cc;rintro e w9 ⟨rfl,R9,J4,s9⟩;have N4:aj w9 (some ⟨g,0,none⟩) l2:=av.keepAt N2 fun O e=>(by cases e;exact s9.turn.block g N3 HF.out.2);have ce:=qr w9 w.heap.size R9 nm s9.at' (Vd F.2.2.size s9.turn.size) (some ⟨g,0,none⟩) bn bc l2 N4 J2.out J3;rw [s9.d,D8.out] at ce;go_wp2_with fail;refine ce.mono ?_;clear ce;rintro e O7 ⟨rfl,N5,HU,HJ⟩;have N6:=Hd (h6.step D0 (s9.trans HJ) (by rw [HU,J4,HI,HH,h6.db.eq]) (by rw [HI,HH];exact (h6.db.one.of_names (yj _ _ _)).of_names (sR _ _ _)));have q1:=Hd (D0.d.trans E8.out);have q2:=Hd ((s9.trans HJ).d.trans D8.out);clear HH HI J4 HU F s7 s8 D0 s9 HJ;go_wp2_with fail;go_meet
        case rel=>exact ⟨r8,N5,N6.out,q1.out,q2.out⟩
     case rest=>
     obtain ⟨r6,R6,A6,HL,HN⟩:=hcut
     as_aux_lemma=>
      have co:=mI wc w.heap.size r6 nm A6.db.disk A6.below.size HS.out ma mn mc m (C4.below A6.below) EQ.out HM.out (EB C4 fun x hx=>(A6.db.disk.lt hx).1);have N7:=Hd HL;rw [HL] at co;clear h5 B3 C0 L HL;go_wp2_with fail;refine co.mono ?_;clear co;intro e w3 D2;obtain ⟨v,N,rfl,B5,r',CW⟩:=pP D2;have F:=A6.mid CW;have cq:=rX w3 w.heap.size R6 nm F.1 F.2.2.size HS.out (by rw [A6.db.eq];exact A6.db.one) ma mn mc m (fun W ht=>C4.below (F.2.2.trans (ht.below (fun x hx=>(F.1.lt hx).1) F.2.2.size))) EQ.out HM.out;rw [HN] at cq;clear D2 CW F;generalize G:kA r6.p nm m=E7 at*;have HE:=Hd G;clear G;go_wp2_with fail;refine cq.mono ?_;clear cq;intro e w4 D3;obtain ⟨wv,r5,R5,rfl,C7,B6,B7,U⟩:=A6.db.open2 A6.below.size B5 D3;rw [HE.out] at C7⊢;have K5:=A6.below.trans U;have d5:=Hd (B6.trans N7.out);have d6:=Hd (B7.trans HN);clear B5 D3 B6 B7 U HN;go_wp2_with fail;go_meet
      case rel=>exact ⟨r5,R5,E7,rfl,C7,d5.out,d6.out,K5⟩
   case rest=>
    obtain ⟨r',R',E',rfl,J5,B6,B7,EE⟩:=hcut;clear s A8 A4;by_cases G:E'=0;rotate_left 1
    .as_aux_lemma=>
      have tE:(E'==0)=false:=(by simpa using G);have HE:=Hd G;clear G;go_upto_region 41 with fail;go_quiet (fail);go_wp2_with fail;rw [<-D4];go_roundg gf
      case measure=>omega
      case rel=>exact ⟨k+1,r',R',E',E0.out,gnA,rfl,J5.old (bS (VW _ _) _),B6,B7,bS EE _⟩
    .as_aux_lemma=>
      subst G;have tE:((0:Int)==0)=true:=rfl;rcases J5 with ⟨h,-⟩|⟨-,V,Q,rfl,rfl,Y⟩
      .exact absurd rfl h
      go_upto_region 41 with fail;have A9:gl wc.drew w.heap.size r' R' V Q nm m:=Y.drew;have L1:∀W,Old wc.drew W->∀i,W.cell? ⟨Q.v,i,none⟩=(dx Q)[i]? :=fun W C=>(A9.rv.blk.old C).rule;unfold dx at L1;have cd:=nz wc.drew w.heap.size r'.d V A9.vl.vault;have C9:Q.ds.length<=1000000:=Vd Y.rv.cnt (Vd Y.rv.rdl.log.cnt oA);have O8:=Y.vl.vault.small.1;refine aB (0::1::2::3::5::6::7::8::4::9::10::11::[]) krA krA cdA ?_
      repeat refine lxA ?_
      refine bh rfl rfl rfA (fun K A=> ?_);go_wp2_with fail;refine cd.mono ?_;clear cd;rintro e W5 ⟨da,dc,ds,rfl,HO,J6,L⟩;have h5:gl W5 w.heap.size r' R' V Q nm m:=A9.old L;have F2:aF ds=aF Q.ds:=(by show ds.map Prod.fst=_;rw [HO];exact Y.l.symm);have N8:ds.length<=1000000:=(by have e:=WS List.length HO;rw [lmA,V.len] at e;omega);have cs:=sA W5 da Q.da ds.length Q.ds.length dc Q.dc ds Q.ds J6.at ⟨h5.rv.deeds.row,fun x hx=>h5.each W5 (aJ.refl _ _) x hx⟩ rfl rfl oA oA;rw [VK F2] at cs;clear F2 HO J6 C9 N8;go_wp2_with fail;refine A _ _ L ?_;clear A K
      repeat refine lxA ?_
      refine bh rfl rfl rfA (fun K A=> ?_);go_wp2_with fail;refine cs.mono ?_;clear cs;rintro e W6 ⟨rfl,B1⟩;have h6:gl W6 w.heap.size r' R' V Q nm m:=h5.old B1;go_wp2_with fail;refine A _ _ B1 ?_;clear A K L1
      repeat refine lxA ?_
      refine bJ ?_;have C3:Below w.heap.size w W6:=aa (aa EE.drew L) B1;go_wp2_with fail;rw [<-D4];go_roundg gf
      case measure=>omega
      case rel=>exact ⟨k+1,r',R',0,E0.out,gnA,rfl,.inr ⟨rfl,V,Q,rfl,rfl,h6⟩,B6,B7,C3⟩
  .have t4:decide ((k:Int)<(n:Int))=false:=soA;go_wp2_with fail;refine (lw _).mono ?_;rintro e wz ⟨rfl,BY⟩;have CK:Below w.heap.size w wz:=hb.trans (BY.mono hb.size);go_wp2_with fail;go_ret;exact ⟨rfl,CK⟩
end
end Go.Proofs.YtioigihakjlopaaGreat

import Derived.Test.YtioigihakjlopaaGreatVF30
namespace Go.Proofs.YtioigihakjlopaaGreat
open Go.Proofs.Tryz
set_option linter.unusedVariables false
set_option linter.unusedSimpArgs false
set_option maxHeartbeats 16000000
set_option maxRecDepth 100000
section
open Go.RowKit Go.Maps
section
variable {w w':World} {B d:Nat} {V:aV}
theorem iP.obj {P:Program} {k:TypeId} {R:Value->Option (DU×List MemPlace)} {M:Nat} {l:List (Lit×DU)} (h:iP w P k R M l):∃es clock,w.heap[M]? =some (.map es clock):=by
 obtain ⟨D,⟨es,clock,hb,_⟩,_⟩:=h.ex;exact ⟨es,clock,hb⟩
theorem Blk.ne_gmap {g:Nat} {cs:Array Value} {ty:TypeId} (hb:Blk w g cs ty) {P:Program} {k:TypeId} {R:Value->Option (DU×List MemPlace)} {M:Nat} {l:List (Lit×DU)} (h:iP w P k R M l):g≠M:=fun e=>by
 obtain ⟨es,clock,hm⟩:=h.obj;have h1:w.heap[g]? =_:=hb;rw [e,hm] at h1;cases h1
theorem aJ.mapTurned {F:Nat->Prop} {M:Nat} (h:w.mapTurned w' M) (hF:F M):aJ F w w':=aJ.of_grown h.grown (fun k e=>by cases e;exact hF)
theorem aJ.off {F:Nat->Prop} {a b:World} (h:aJ F a.drew b):aJ F a b:=⟨h.os,h.tape,h.output,h.size,h.block⟩
theorem sQ:∀(n:Nat) (l:List Nat),l.Nodup->(∀x∈l,x<n)->l.length<=n
 |0,l,_,h=>by
  cases l with
  |nil=>exact Lt _
  |cons x r=>exact absurd (h x skA) (Xg _)
 |n+1,l,hn,h=>by
  by_cases hm:n∈l
  .have h1:=sQ n (l.erase n) (hn.erase n) (fun x hx=>by
    have h2:=(hn.mem_erase_iff).1 hx;have:=h x h2.2;have:=h2.1;omega)
   rw [List.length_erase_of_mem hm] at h1;omega
  .have h1:=sQ n l hn (fun x hx=>by
    have h2:=h x hx;have:x≠n:=fun e=>hm (e▸hx);omega)
   omega
theorem aR.boxN (h:aR w B d V):V.bl.length<=4097:=by
 have h1:=h.bm.nd;rw [WB] at h1;have h2:(V.bl.map Prod.fst).Nodup:=by
  have h3:((V.bl.map Prod.fst).map nY).Nodup:=(by rw [WB];exact h1);exact List.Pairwise.of_map nY (fun a b hab e=>hab (by rw [e])) h3
 have:=sQ 4097 (V.bl.map Prod.fst) h2 (fun x hx=>by
  obtain ⟨y,hy,rfl⟩:=VY.1 hx;have:=(h.boxes y hy).2.1;omega)
 rwa [lmA] at this
theorem aR.boxed (h:aR w B d V) (ht:w.mapTurned w' V.mb) {g b:Nat} (hg:g<=4096) (hm:iP w' prog 3 Rb V.mb (V.bl.map Lx++ [Lx (g,b)])) (hb:fI w' b V.m g) (hbB:B<=b) (hf:¬dJ V.R b):aR w' B d {V with bl:=V.bl++ [(g,b)]}:=by
 have hk:∀x,x≠V.mb->x<w.heap.size->w'.heap[x]? =w.heap[x]? :=fun x hne hlt=>ht.grown.block x hlt (by simpa using hne);have hlf:∀x,dJ V.R x->w'.heap[x]? =w.heap[x]? :=fun x hx=>hk x (fun e=>h.sepl V.mb (.inr (.inr (.inr (.inr (.inr (.inl rfl)))))) (e▸hx)) (h.log.lt hx).2;have hc:∀x cs t,Blk w x cs t->w'.heap[x]? =w.heap[x]? :=fun x cs t hb=>hk x (hb.ne_gmap h.bm) hb.lt;refine ⟨h.ge,(hc _ _ _ h.blk).trans h.blk,h.master.keepAt fun x hx=> ?_,h.mz,h.log.keep hlf,h.deeds.keepAt fun x hx=> ?_,fun x hx=>(h.each x hx).keepB fun y hy=> ?_,h.gm.keep (hk _ h.ge.2.2.2 h.gm.lt),
  fun g hg=>(h.rows g hg).keepAt fun x hx=> ?_,h.sepf,h.sepi,by rw [VG];exact hm,fun y hy=> ?_,fun x hx=> ?_,h.good,h.cnt⟩
 .obtain ⟨_,_,cur,hb⟩:=h.master.block_lt hx;exact hc _ _ _ hb
 .obtain ⟨_,_,cur,hb⟩:=h.deeds.block_lt hx;exact hc _ _ _ hb
 .obtain ⟨_,_,cur,t,hb,_⟩:=(h.each x hx).innerLt hy;exact hc _ _ _ hb
 .obtain ⟨_,_,cur,hb⟩:=(h.rows g hg).block_lt hx;exact hc _ _ _ hb
 .rcases VQ.1 hy with hy|hy
  .obtain ⟨h1,h2,h3⟩:=h.boxes y hy;exact ⟨h1,h2,(hc _ _ _ h3).trans h3⟩
  .rw [VH.1 hy];exact ⟨hbB,hg,hb⟩
 .rcases hx with hx|hx|hx|hx|hx|hx|hx|⟨y,hy,rfl⟩
  .exact h.sepl x (.inl hx)
  .exact h.sepl x (.inr (.inl hx))
  .exact h.sepl x (.inr (.inr (.inl hx)))
  .exact h.sepl x (.inr (.inr (.inr (.inl hx))))
  .exact h.sepl x (.inr (.inr (.inr (.inr (.inl hx)))))
  .exact h.sepl x (.inr (.inr (.inr (.inr (.inr (.inl hx))))))
  .exact h.sepl x (.inr (.inr (.inr (.inr (.inr (.inr (.inl hx)))))))
  .rcases VQ.1 hy with hy|hy
   .exact h.sepl y.2 (.inr (.inr (.inr (.inr (.inr (.inr (.inr ⟨y,hy,rfl⟩)))))))
   .rw [VH.1 hy];exact hf
end
def Pc (B d:Nat) (w:World) (V:aV) (g:Nat) (e:Ending) (w':World):Prop:=∃(b:Nat) (bl:List (Nat×Nat)),e= .returned (.pointer (some ⟨b,0,none⟩))/\fI w' b V.m g/\ij B d w V w' {V with bl:=bl}/\aJ (fun x=>x=V.mb) w w'
theorem xB (w:World) (B d:Nat) (V:aV) (h:aR w B d V) (hB:B<=w.heap.size) (g:Nat) (hg:g<=4096):
  Calls prog 53 #[.pointer (some ⟨V.v,0,none⟩),.int .i64 (g:Int)] w (Pc B d w V g):=by
 have hs:=h.blk.rule;unfold aQ at hs;by_cases hy:∃y∈V.bl,y.1=g
 .obtain ⟨y,hy,rfl⟩:=hy;have hl:=h.lookB hy;go_enter func53,ntmps53;go_wp2_with fail;go_ret;exact ⟨y.2,V.bl,rfl,(h.boxes y hy).2.2,ij.refl h,aJ.refl _ _⟩
 .have hn:∀y∈V.bl,y.1≠g:=fun y h1 h2=>hy ⟨y,h1,h2⟩;have hl:=h.lookB_no hg hn;have hu:IntKind.u64.wrap (g:Int)=(g:Int):=by
   simp only [IntKind.wrap,IntKind.bits,IntKind.signed];simp;omega
  clear hy;go_enter func53,ntmps53;go_wp2_with fail;have L0:∀W,aq (fun x=>x=V.v) w.drew W->∀i,W.cell? ⟨V.v,i,none⟩=(aQ V)[i]? :=fun W hW i=>(VJ (a:=⟨V.v,i,none⟩) (hW.2 V.v rfl)).trans (h.blk.rule i);unfold aQ at L0;clear hs hl;refine aj true (aq (fun x=>x=V.v)) (aq.refl _) (fun _ _ _ h1 h2=>aq.trans h1 h2) (.step 0 (.step 1 (.step 2 (.step 3 (.step 4 (.step 5 (.step 6 (.step 7 (.step 8 (.step 9 (.step 10 (.step 11 (.step 12 .done))))))))))))) krA krA cdA ?_
  repeat (first|refine tsA ?_|refine tqA ?_)
  refine an rfl rfl rfA (fun K hK=> ?_);go_wp2_with fail;refine (DT V.ma V.m.length V.mc V.m g w.drew h.master.drew.row rfl (by have:=h.mz;omega) oA).mono ?_;rintro e w1 ⟨b,rfl,hbw,hbx,hb1⟩;have hb1':Below w.heap.size w w1:=⟨hb1.os,hb1.tape,hb1.output,hb1.size,hb1.block⟩;have h1:=h.old hb1';go_wp2_with fail;refine hK _ _ (aq.below hb1 fun x hx=>by subst hx;exact h.blk.lt) ?_;clear hK K;have hno:nY g∉(V.bl.map Lx).map Prod.fst:=aR.noBox hn;have hlen:V.bl.length<maxLen:=(by have:=h.boxN;unfold maxLen;omega);obtain ⟨w2,hrun,hm2,ht2⟩:=h1.bm.add uO underlying91 (by rw [lmA];exact hlen) (rA (n:=g) oA) (Ph b) hno;have hbx2:fI w2 b V.m g:=(ht2.grown.block b hbx.lt (by simpa using hbx.ne_gmap h1.bm)).trans hbx;have h2:=h1.boxed ht2 hg hm2 hbx2 (At hB hbw) (fun hl=>by have:=(h.log.lt hl).2;simp at hbw;omega);have tn:aJ (fun x=>x=V.mb) w w2:=(aJ.of_below (F:=fun x=>x=V.mb) hb1').trans (aJ.mapTurned (F:=fun x=>x=V.mb) ht2 rfl) fun _ h=> .inl h;have hl2:=h2.lookB (y:=(g,b)) skA;have hs2:=h2.blk.rule;unfold aQ at hs2;refine az rfl rfl rfA (fun K hK=> ?_);go_wp2_with fail;refine ap ?_;go_wp2_with fail;go_ret;refine ⟨b,_,rfl,hbx2,⟨tn.mono fun x hx=> .inr (.inr (.inr (.inr (.inr (.inl hx))))),h2,fun x hx=> ?_,rfl,rfl,rfl,rfl⟩,tn⟩;rcases hx with hx|hx|hx|hx|hx|hx|hx|⟨y,hy,rfl⟩
  .exact .inl (.inl hx)
  .exact .inl (.inr (.inl hx))
  .exact .inl (.inr (.inr (.inl hx)))
  .exact .inl (.inr (.inr (.inr (.inl hx))))
  .exact .inl (.inr (.inr (.inr (.inr (.inl hx)))))
  .exact .inl (.inr (.inr (.inr (.inr (.inr (.inl hx))))))
  .exact .inl (.inr (.inr (.inr (.inr (.inr (.inr (.inl hx)))))))
  .rcases VQ.1 hy with hy|hy
   .exact .inl (.inr (.inr (.inr (.inr (.inr (.inr (.inr ⟨y,hy,rfl⟩)))))))
   .rw [VH.1 hy];exact .inr hbw
theorem nB (w:World) (B d:Nat) (V:aV) (h:aR w B d V) (X:Nat) (x:ao) (hx:aW) (hX:Blk w X (ak x hx).toArray 40):
  Calls prog 52 #[.pointer (some ⟨V.v,0,none⟩),.pointer (some ⟨X,0,none⟩)] w fun e w'=>e= .returned (.bool (bp V.l x))/\Below w.heap.size w w':=by
 have k0:w.cell? ⟨X,0,none⟩=some (.int .i8 x.kind):=hX.cell rfl;have L0:∀W,Old w.drew W->∀i,W.cell? ⟨V.v,i,none⟩=(aQ V)[i]? :=fun W hW i=>(h.blk.drew.old hW).rule i;have L1:∀W,Old w.drew W->W.cell? ⟨X,1,none⟩=some (.int .i64 x.game):=fun W hW=>(hX.drew.old hW).cell rfl;have L2:∀W,Old w.drew W->∀ty,(Builtin.len_ #[90] ty #[.map (some V.mg)]).run prog W= .ok (.int .i64 (aP V.l:Int)) W:=fun W hW ty=>(h.old (w':=W) ⟨hW.os,hW.tape,hW.output,hW.size,hW.block⟩).size ty;unfold aQ at L0;unfold bp;by_cases hk:x.kind=1
 .rw [if_pos hk];rw [hk] at k0;go_enter func52,ntmps52;go_wp2_with fail;refine aA (0::1::2::3::4::5::6::7::8::9::10::[]) krA krA cdA ?_
  repeat (first|refine lsA ?_|refine lqA ?_)
  refine bO ?_;go_wp2_with fail;go_ret;exact ⟨by first|rfl|(congr 2),(AT _ _).drew⟩
 .rw [if_neg hk];by_cases h0:0<=x.game
  .have t0:decide (0<=x.game)=true:=VO h0;rw [t0,Vr];go_enter func52,ntmps52;go_wp2_with fail;refine bU (0::1::2::3::4::5::6::7::8::9::10::11::12::13::14::15::16::17::[]) krA krA cdA ?_
   repeat (first|refine gsA ?_|refine gqA ?_)
   refine fq ?_;go_wp2_with fail;go_ret;exact ⟨rfl,(AT _ _).drew⟩
  .have t0:decide (0<=x.game)=false:=Vd h0;rw [t0,WV];go_enter func52,ntmps52;go_wp2_with fail;refine bU (0::1::2::3::4::5::6::7::8::9::10::11::12::13::14::15::16::17::[]) krA krA cdA ?_
   repeat (first|refine gsA ?_|refine gqA ?_)
   refine fq ?_;go_wp2_with fail;go_ret;exact ⟨rfl,(AT _ _).drew⟩
theorem vd:bu prog 23 40 15 224:=bu.mk (z:= .agg bR) underlying23 krA rfl oA
theorem pI {α:Type}:∀{A B:List α},A.Nodup->(∀x∈A,x∈B)->A.length=B.length->A.Perm B
 | [],B,_,_,h=>by
  have:B=[]:=Vz h.symm;rw [this]
 |a::A,B,hn,hs,hl=>by
  rw [XH] at hn;obtain ⟨B1,B2,rfl⟩:=List.append_of_mem (hs a skA);have h1:(B1++a::B2).Perm (a::(B1++B2)):=List.perm_middle;refine (List.Perm.cons a (pI hn.2 (fun x hx=> ?_) ?_)).trans h1.symm
  .have hne:x≠a:=fun e=>hn.1 (e▸hx);have:=hs x (by simp [hx]);simp at this⊢;rcases this with h|h|h
   .exact .inl h
   .exact absurd h hne
   .exact .inr h
  .simp at hl⊢;omega
def upd (f:Nat->Nat) (g b:Nat) (k:Nat):Nat:=if k=g then b else f k
theorem iR (f:Nat->Nat) (g b:Nat):upd f g b g=b:=if_pos rfl
theorem fE {f:Nat->Nat} {g b k:Nat} (h:k≠g):upd f g b k=f k:=if_neg h
theorem qi (l:List ao) (f fc:Nat->Nat):((kZ l f fc).map Prod.fst).Nodup:=by
 unfold kZ;rw [WB];show ((List.range (aP l)).map fun g=>nY g).Nodup;refine List.Pairwise.map _ ?_ (List.nodup_range);intro a b hab e;exact hab (oB.1 e)
theorem CH {l:List ao} {x:ao} {g:Nat} (hg:x.game=(g:Int)) (hf:bp l x=true) (f fc:Nat->Nat) (b c:Nat):
  (((kZ l f fc).filter fun e=> !cf (nY g) e)++ [(nY g,Fp b ((cR l (g:Int)).length+1) c)]).Perm (kZ (l++ [x]) (upd f g b) (upd fc g c)):=by
 have hfg:=eU hf;have hN:=iI l x;have hplace:(cR (l++ [x]) (g:Int)).length=(cR l (g:Int)).length+1:=(by rw [io,if_pos hg];simp);have hgN:g<aP (l++ [x]):=(by have:=hfg.2.1;omega);have hnd:(kZ (l++ [x]) (upd f g b) (upd fc g c)).Nodup:=(List.Pairwise.of_map Prod.fst (fun a b hab e=>hab (by rw [e])) (qi (l++ [x]) (upd f g b) (upd fc g c)));refine (pI hnd (fun e he=> ?_) ?_).symm
 .obtain ⟨k,hk,rfl⟩:=VY.1 he;have hk:=Wk.1 hk;by_cases hkg:k=g
  .subst hkg;refine VQ.2 (.inr ?_);rw [iR,iR,hplace];exact VH.2 rfl
  .refine VQ.2 (.inl (Vt.2 ⟨?_,?_⟩))
   .have hkl:k<aP l:=by
     by_cases h1:x.kind=1
     .have:=hfg.2.2.2 h1;rw [hN,if_pos h1] at hk;omega
     .rw [hN,if_neg h1] at hk;omega
    have e:cR (l++ [x]) (k:Int)=cR l (k:Int):=(by rw [io,if_neg oA,Wq]);rw [fE hkg,fE hkg,e];exact mC hkl
   .unfold cf;have:(nY k).sameKey (nY g)=false:=by
     rw [Vq];intro e;exact hkg (oB.1 (VP e))
    dsimp only;rw [this];rfl
 .have hkl:WideAt.IsKeyLit (nY g):=(by simp [nY,WideAt.IsKeyLit]);have h1:=lp hkl (qi l f fc);rw [mD] at h1;rw [mD,laA,List.length_singleton,hN];by_cases hgl:g<aP l
  .have ha:(kZ l f fc).any (cf (nY g))=true:=(qt hkl).2 (VY.2 ⟨_,mC hgl,rfl⟩);rw [if_pos ha] at h1;have hk:¬x.kind=1:=fun h=>(by have:=hfg.2.2.2 h;omega);rw [if_neg hk];omega
  .have ha:¬(kZ l f fc).any (cf (nY g))=true:=fun h=>tu (f:=f) (fc:=fc) (Nat.le_of_not_lt hgl) ((qt hkl).1 h);rw [if_neg ha] at h1;have hk:x.kind=1:=by
    by_cases h:x.kind=1
    .exact h
    .have:=hfg.2.2.1 h;omega
   rw [if_pos hk];omega
def oC (V:aV) (x:ao) (h':aW) (g b c b2 c2:Nat):aV:={V with da:=some ⟨b2,0,none⟩,dc:=c2,ds:=V.ds++ [(x,h')],f:=upd V.f g b,fc:=upd V.fc g c}
theorem Gm (V:aV) (x:ao) (h':aW) (g b c b2 c2:Nat):(oC V x h' g b c b2 c2).l=V.l++ [x]:=by simp [oC,aV.l]
section
variable {w w':World} {B d:Nat} {V:aV}
theorem EV (h:aR w B d V) {x:ao} {h':aW} {g b c b2 c2:Nat} (hgx:x.game=(g:Int)) (hm:il x=true) (hf:bp V.l x=true) (hok:OkD x) (hc:V.ds.length<V.R.ls.length)
  (ht:aJ (fun y=>y=V.v\/y=V.mg\/(g<aP V.l/\y=V.f g)\/atB V.da y) w w')
  (hblk:Blk w' V.v (aQ (oC V x h' g b c b2 c2)) 93) (hgm:iP w' prog 3 Rs V.mg (kZ (V.l++ [x]) (upd V.f g b) (upd V.fc g c)))
  (hrow:Own w' B 3 1 (some ⟨b,0,none⟩) ((cR V.l (g:Int)).length+1) c (iB V.l g++ [.int .i64 (V.ds.length:Int)])) (hbw:(g<aP V.l/\b=V.f g)\/w.heap.size<=b)
  (hrd:Own w' B 40 15 (some ⟨b2,0,none⟩) (V.ds.length+1) c2 (dv V.ds++ak x h')) (hb2:atB V.da b2\/w.heap.size<=b2)
  (hdo:aX w' B x h') (hfr:∀y,qR h' y->w.heap.size<=y/\y≠b):ij B d w V w' (oC V x h' g b c b2 c2):=by
 have hfg:=eU hf;have hN:=iI V.l x;have hl:=Gm V x h' g b c b2 c2;have hlen:=V.len;have hsub:∀y,(y=V.v\/y=V.mg\/(g<aP V.l/\y=V.f g)\/atB V.da y)->dW V y:=by
  rintro y (rfl|rfl|⟨hg,rfl⟩|ha)
  .exact .inl rfl
  .exact .inr (.inr (.inr (.inr (.inl rfl))))
  .exact .inr (.inr (.inr (.inr (.inr (.inr (.inl ⟨g,hg,rfl⟩))))))
  .exact .inr (.inr (.inl ha))
 have hlf:∀y,dJ V.R y->w'.heap[y]? =w.heap[y]? :=fun y hy=>ht.block y (h.log.lt hy).2 fun hF=>h.sepl y (hsub y hF) hy;have hfB:∀k,k<aP V.l->∃cur,Blk w (V.f k) cur 3:=fun k hk=>by
  obtain ⟨_,_,cur,hb⟩:=(h.rows k hk).block_lt rfl;exact ⟨cur,hb⟩
 have hstay:∀y cs t,Blk w y cs t->t≠93->t≠40->(t=3->¬(g<aP V.l/\y=V.f g))->w'.heap[y]? =w.heap[y]? :=fun y cs t hb h1 h2 h3=>by
  refine ht.block y hb.lt ?_;rintro (rfl|rfl|⟨hg,rfl⟩|⟨ad,ha,rfl⟩)
  .exact Blk.ne hb h.blk h1 rfl
  .exact hb.ne_gmap h.gm rfl
  .by_cases e:t=3
   .exact h3 e ⟨hg,rfl⟩
   .obtain ⟨cur,hb'⟩:=hfB g hg;exact Blk.ne hb hb' e rfl
  .obtain ⟨_,_,cur,hb'⟩:=h.deeds.block_lt ha;exact Blk.ne hb hb' h2 rfl
 have hgames:∀k,k<aP (V.l++ [x])->k≠g->k<aP V.l:=fun k hk hne=>by
  by_cases h1:x.kind=1
  .have:=hfg.2.2.2 h1;rw [hN,if_pos h1] at hk;omega
  .rw [hN,if_neg h1] at hk;omega
 have hfne:∀k,k<aP V.l->k≠g->V.f k≠b:=fun k hk hne e=>by
  rcases hbw with ⟨h1,h2⟩|h1
  .exact hne (h.sepf k g hk h1 (e.trans h2))
  .obtain ⟨cur,hb⟩:=hfB k hk;have:=hb.lt;omega
 have hrest:∀y,dW (oC V x h' g b c b2 c2) y->dW V y\/w.heap.size<=y:=by
  intro y hy;unfold dW at hy;rw [hl] at hy;rcases hy with rfl|hy|⟨ad,ha,rfl⟩|⟨z,hz,hi⟩|rfl|rfl|⟨k,hk,rfl⟩|hy
  .exact .inl (.inl rfl)
  .exact .inl (.inr (.inl hy))
  .cases ha;exact hb2.imp (fun h=> .inr (.inr (.inl h))) id
  .rcases VQ.1 (show z∈V.ds++ [(x,h')] from hz) with hz|hz
   .exact .inl (.inr (.inr (.inr (.inl ⟨z,hz,hi⟩))))
   .rw [VH.1 hz] at hi;exact .inr (hfr y hi).1
  .exact .inl (.inr (.inr (.inr (.inr (.inl rfl)))))
  .exact .inl (.inr (.inr (.inr (.inr (.inr (.inl rfl))))))
  .by_cases hkg:k=g
   .subst hkg;rw [show (oC V x h' k b c b2 c2).f k=b from iR _ _ _];rcases hbw with ⟨h1,h2⟩|h1
    .exact .inl (.inr (.inr (.inr (.inr (.inr (.inr (.inl ⟨k,h1,h2⟩)))))))
    .exact .inr h1
   .rw [show (oC V x h' g b c b2 c2).f k=V.f k from fE hkg];exact .inl (.inr (.inr (.inr (.inr (.inr (.inr (.inl ⟨k,hgames k hk hkg,rfl⟩)))))))
  .exact .inl (.inr (.inr (.inr (.inr (.inr (.inr (.inr hy)))))))
 refine ⟨ht.mono hsub,?_,hrest,rfl,rfl,rfl,rfl⟩;refine ⟨h.ge,hblk,?_,h.mz,h.log.keep hlf,?_,?_,by rw [hl];exact hgm,?_,?_,?_,?_,?_,?_,?_,?_⟩
 .refine h.master.keepAt fun y hy=> ?_;obtain ⟨_,_,cur,hb⟩:=h.master.block_lt hy;exact hstay _ _ _ hb dcA dcA (fun e=>absurd e dcA)
 .have e1:(oC V x h' g b c b2 c2).ds.length=V.ds.length+1:=(by simp [oC]);have e2:dv (oC V x h' g b c b2 c2).ds=dv V.ds++ak x h':=(by simp [oC,dv]);rw [e1,e2];exact hrd
 .intro z hz;rcases VQ.1 (show z∈V.ds++ [(x,h')] from hz) with hz|hz
  .refine (h.each z hz).keepB fun y hy=> ?_;obtain ⟨_,_,cur,t,hb,ht⟩:=(h.each z hz).innerLt hy;refine hstay y cur t hb (by rcases ht with rfl|rfl<;>decide) (by rcases ht with rfl|rfl<;>decide) fun e ⟨hg,e2⟩=> ?_
   rcases hy with hy|⟨ad,ha,e3⟩
   .exact h.sepi g hg z hz (e2▸hy)
   .obtain ⟨_,_,cur2,hb2⟩:=(h.each z hz).act.pairs.1.block_lt ha;subst e3;exact Blk.ne hb hb2 (by rw [e];decide) rfl
  .rw [VH.1 hz];exact hdo
 .intro k hk;rw [hl] at hk⊢;by_cases hkg:k=g
  .subst hkg;have e1:cR (V.l++ [x]) (k:Int)=cR V.l (k:Int)++ [V.ds.length]:=(by rw [io,if_pos hgx,hlen]);unfold iB;rw [show (oC V x h' k b c b2 c2).f k=b from iR _ _ _,show (oC V x h' k b c b2 c2).fc k=c from iR _ _ _,e1,laA,VG];exact hrow
  .have hkl:=hgames k hk hkg;have e1:cR (V.l++ [x]) (k:Int)=cR V.l (k:Int):=(by rw [io,if_neg oA,Wq]);unfold iB;rw [show (oC V x h' g b c b2 c2).f k=V.f k from fE hkg,show (oC V x h' g b c b2 c2).fc k=V.fc k from fE hkg,e1];refine (h.rows k hkl).keepAt fun y hy=> ?_;cases hy;obtain ⟨cur,hb⟩:=hfB k hkl;exact hstay _ _ _ hb dcA dcA fun _ ⟨hg,e⟩=>hkg (h.sepf k g hkl hg e)
 .intro k k' hk hk' e;rw [hl] at hk hk';by_cases h1:k=g
  .by_cases h2:k'=g
   .rw [h1,h2]
   .exfalso;subst h1;rw [show (oC V x h' k b c b2 c2).f k=b from iR _ _ _,show (oC V x h' k b c b2 c2).f k'=V.f k' from fE h2] at e;exact hfne k' (hgames k' hk' h2) h2 e.symm
  .by_cases h2:k'=g
   .exfalso;subst h2;rw [show (oC V x h' k' b c b2 c2).f k'=b from iR _ _ _,show (oC V x h' k' b c b2 c2).f k=V.f k from fE h1] at e;exact hfne k (hgames k hk h1) h1 e
   .rw [show (oC V x h' g b c b2 c2).f k=V.f k from fE h1,show (oC V x h' g b c b2 c2).f k'=V.f k' from fE h2] at e;exact h.sepf k k' (hgames k hk h1) (hgames k' hk' h2) e
 .intro k hk z hz hi;rw [hl] at hk;by_cases hkg:k=g
  .subst hkg;rw [show (oC V x h' k b c b2 c2).f k=b from iR _ _ _] at hi;rcases VQ.1 (show z∈V.ds++ [(x,h')] from hz) with hz|hz
   .rcases hbw with ⟨h1,h2⟩|h1
    .exact h.sepi k h1 z hz (h2▸hi)
    .have:=((h.each z hz).innerLt (.inl hi)).2.1;omega
   .rw [VH.1 hz] at hi;exact (hfr b (.inl hi)).2 rfl
  .have hkl:=hgames k hk hkg;rw [show (oC V x h' g b c b2 c2).f k=V.f k from fE hkg] at hi;rcases VQ.1 (show z∈V.ds++ [(x,h')] from hz) with hz|hz
   .exact h.sepi k hkl z hz hi
   .rw [VH.1 hz] at hi;have h1:=(hfr _ (.inl hi)).1;obtain ⟨cur,hb⟩:=hfB k hkl;have:=hb.lt;omega
 .refine h.bm.keep (ht.block _ h.bm.lt ?_);rintro (e|e|⟨hg,e⟩|⟨ad,ha,e⟩)
  .exact (h.blk.ne_gmap h.bm) e.symm
  .exact h.ge.2.2.2 e.symm
  .obtain ⟨cur,hb⟩:=hfB g hg;exact (hb.ne_gmap h.bm) e.symm
  .obtain ⟨_,_,cur,hb⟩:=h.deeds.block_lt ha;exact (hb.ne_gmap h.bm) e.symm
 .intro y hy;obtain ⟨h1,h2,h3⟩:=h.boxes y hy;exact ⟨h1,h2,(hstay _ _ _ h3 dcA dcA (fun e=>absurd e dcA)).trans h3⟩
 .intro y hy hy2;rcases hrest y hy with h1|h1
  .exact h.sepl y h1 hy2
  .have:=(h.log.lt hy2).2;omega
 .rw [hl];exact qU.snoc h.good hm hf hok
 .show (V.ds++ [(x,h')]).length<=V.R.ls.length;simp;omega
end
theorem kx (x:ao) (h:aW):List.foldl (fun (cs:Array Value) (x:Value×Nat)=>cs.setIfInBounds x.snd x.fst) #[.int .i8 0,.int .i64 0,.int .i64 0,.string ⟨#[]⟩,.string ⟨#[]⟩,.string ⟨#[]⟩,.slice none 0 0,.slice none 0 0,.slice none 0 0,.int .i8 0,.int .i64 0,.int .i64 0,.int .i64 0,.slice none 0 0,.slice none 0 0] (ak x h).zipIdx=(ak x h).toArray:=by
 simp [ak,List.zipIdx]
theorem rO {w w':World} (h:Below w.drew.heap.size w.drew w'):Below w.heap.size w w':=⟨h.os,h.tape,h.output,h.size,h.block⟩
def Mf (B d:Nat) (w:World) (V:aV) (x:ao) (e:Ending) (w':World):Prop:=∃V':aV,e= .returned (.tuple #[])/\ij B d w V w' V'/\V'.l=V.l++ [x]/\V'.mg=V.mg/\V'.mb=V.mb
theorem aR.rowOf {w:World} {B d:Nat} {V:aV} (h:aR w B d V) {x:ao} {g:Nat} (hg:x.game=(g:Int)) (hf:bp V.l x=true) (hz:eO x.game):
  ∃(sa:Option Addr) (sc:Nat),(∀W,W.heap[V.mg]? =w.heap[V.mg]?->(Instr.lookup 90 (.map (some V.mg)) (.int .i64 (g:Int)) false).run prog W= .ok (.slice sa (cR V.l (g:Int)).length sc) W)/\Own w B 3 1 sa (cR V.l (g:Int)).length sc (iB V.l g)/\(∀ad,sa=some ad->g<aP V.l/\ad.block=V.f g):=by
 by_cases hgl:g<aP V.l
 .refine ⟨some ⟨V.f g,0,none⟩,V.fc g,fun W hW=> ?_,h.rows g hgl,fun ad e=>by cases e;exact ⟨hgl,rfl⟩⟩;have hk:=rA (n:=g) (by have:=h.small.2.1;omega);obtain ⟨v,ps,hr,hv⟩:=(h.gm.keep hW).look uO underlying90 (rU W) (show Rs (.slice none 0 0)=some (.agg [],[]) from rfl) hk (mC hgl);rw [hr,GO hv]
 .have hno:cR V.l (g:Int)=[]:=by
   have:=h.good.none (g:=(g:Int)) oA;have h2:=gU V.l (g:Int);rw [this] at h2;exact Vz h2
  have e2:iB V.l g=[]:=(by unfold iB;rw [hno];rfl);rw [hno,e2];refine ⟨none,0,fun W hW=> ?_,Own.nil _ _ _ _,fun ad e=>by cases e⟩;have hk:keyOf prog 3 (.int .i64 (g:Int))=some (nY g):=keyOf_int_mk underlying3 (by rw [<-hg];exact hz);obtain ⟨v,ps,hr,hv⟩:=(h.gm.keep hW).look_no uO underlying90 (rU W) (show Rs (.slice none 0 0)=some (.agg [],[]) from rfl) hk (tu oA);rw [hr,Dr hv];rfl
theorem tQ (w:World) (B d:Nat) (V:aV) (h:aR w B d V) (hB:B<=w.heap.size) (x:ao) (hx:aW) (hda:∀W,aJ (dW V) w W->dC W x hx) (hm:il x=true) (hf:bp V.l x=true) (hc:V.ds.length<V.R.ls.length):
  Calls prog 51 #[.pointer (some ⟨V.v,0,none⟩),dR x hx] w (Mf B d w V x):=by
 have hd:=hda w (aJ.refl _ _);obtain ⟨g,hg⟩:∃g:Nat,x.game=(g:Int):=⟨x.game.toNat,by have:=(eU hf).1;omega⟩;obtain ⟨sa,sc,hlook,hown,hsa⟩:=h.rowOf hg hf hd.game;have hsm:=h.small;have hpl:=hsm.2.2 (g:Int);rw [aH];go_enter func51,ntmps51;go_upto_region 1 with (fail);obtain ⟨X,hX⟩:=Le w.heap.size;rw [<-hX];refine af (fun W=>Blk W X (ak x hx).toArray 40/\Below w.heap.size w W) ⟨by subst hX;exact Blk.new w _ _,by subst hX;exact cL⟩ ?_;rintro W1 ⟨bX,hb1⟩;have hXw:w.heap.size<=X:=VR hX.symm;clear hX;have h1:=h.old hb1;have hown1:=hown.old hb1;obtain ⟨n,hn⟩:=Le ((cR V.l (g:Int)).length);obtain ⟨k,hk⟩:=Le V.ds.length;rw [<-hn] at hpl hown1 hlook;have hk4:k<=4096:=(by rw [hk];exact hsm.1);have L0:∀W,aq (fun y=>y=V.v\/y=X\/y=V.mg) W1.drew W->∀i,W.cell? ⟨V.v,i,none⟩=(aQ V)[i]? :=fun W hW i=>(VJ (a:=⟨V.v,i,none⟩) (hW.2 V.v (.inl rfl))).trans (h1.blk.rule i);have L1:∀W,aq (fun y=>y=V.v\/y=X\/y=V.mg) W1.drew W->W.cell? ⟨X,1,none⟩=some (.int .i64 (g:Int)):=fun W hW=>by
  rw [VJ (a:=⟨X,1,none⟩) (hW.2 X (.inr (.inl rfl))),<-hg];exact bX.cell rfl
 have L2:∀W,aq (fun y=>y=V.v\/y=X\/y=V.mg) W1.drew W->(Instr.lookup 90 (.map (some V.mg)) (.int .i64 (g:Int)) false).run prog W= .ok (.slice sa n sc) W:=fun W hW=>hlook W ((hW.2 V.mg (.inr (.inr rfl))).trans (hb1.block _ h.gm.lt));unfold aQ at L0;rw [<-hk] at L0;have HN:=Hd hn;have HK:=Hd hk;have HG:=Hd hg;clear hn hk hg hlook hown;refine aj true (aq (fun y=>y=V.v\/y=X\/y=V.mg)) (aq.refl _) (fun _ _ _ h1 h2=>aq.trans h1 h2) (.step 0 (.step 1 (.step 2 (.step 3 (.step 4 (.step 5 (.step 6 (.step 7 (.step 8 (.step 9 (.step 10 (.step 11 (.step 12 (.step 13 (.step 14 (.step 15 (.step 16 (.step 17 (.step 18 (.step 19 (.step 20 .done))))))))))))))))))))) krA krA cdA ?_
 repeat (first|refine tsA ?_|refine tqA ?_)
 refine an rfl rfl rfA (fun K hK=> ?_);go_wp2_with fail;have hw1:=hb1.size;have hvl:=h1.blk.lt;have hXl:=bX.lt;have hgl:=h1.gm.lt;have hown2:Own (W1.drew.alloc (.cells #[.int .i64 (k:Int)] 3)) B 3 1 sa n sc (iB V.l g):=hown1.drew.alloc _;refine hK _ _ (aq.below ((AT _ _).alloc (Lt _) _) fun y hy=>by rcases hy with rfl|rfl|rfl<;>assumption) ?_
 clear hK K;refine an rfl rfl rfA (fun K hK=> ?_);refine fW (.tmp 16) (.tmp 22) 34 rfl rB rfl hown2 rfl (aw.new' W1.drew #[.int .i64 (k:Int)] 3 _ rfl) rfA oA (by exact dg _ rfl) mxA oA soA ?_;intro b c w2 how hg2 hbw;have hne:∀r,(Value.slice sa n sc).ownBlock=some r->g<aP V.l/\r=V.f g:=fun r e=>by
  cases sa with
  |none=>cases e
  |some ad=>
   obtain ⟨q1,q2⟩:=hsa ad rfl;simp [Value.ownBlock] at e;exact ⟨q1,e▸q2⟩
 have hfB:g<aP V.l->∃cur,Blk W1 (V.f g) cur 3:=fun q=>by
  obtain ⟨_,_,cur,hb⟩:=(h1.rows g q).block_lt rfl;exact ⟨cur,hb⟩
 have hz2:=hg2.size;simp at hz2;have hkeep2:∀y,y<W1.heap.size->(∀q:g<aP V.l,y≠V.f g)->w2.heap[y]? =W1.heap[y]? :=fun y hy q=>by
  refine (hg2.block y soA fun e=> ?_).trans (Vi _ _ _ hy);obtain ⟨q1,q2⟩:=hne y e.symm;exact q q1 q2
 have nv:∀q:g<aP V.l,V.v≠V.f g:=fun q=>(by obtain ⟨cur,hb⟩:=hfB q;exact h1.blk.ne hb dcA);have nX:∀q:g<aP V.l,X≠V.f g:=fun q=>(by obtain ⟨cur,hb⟩:=hfB q;exact bX.ne hb dcA);have nm:∀q:g<aP V.l,V.mg≠V.f g:=fun q=>(by obtain ⟨cur,hb⟩:=hfB q;exact fun e=>(hb.ne_gmap h1.gm) e.symm);refine hK _ _ ⟨hg2.size,fun y hy=> ?_⟩ ?_
 .rcases hy with rfl|rfl|rfl
  .exact (hkeep2 _ hvl nv).trans (Vi _ _ _ hvl).symm
  .exact (hkeep2 _ hXl nX).trans (Vi _ _ _ hXl).symm
  .exact (hkeep2 _ hgl nm).trans (Vi _ _ _ hgl).symm
 clear hK K;have hgm2:=h1.gm.keep (hkeep2 _ hgl nm);obtain ⟨w3,hrun,hm3,ht3⟩:=hgm2.put uO underlying90 (by rw [mD];have:=hsm.2.1;unfold maxLen;omega) (kl:=nY g) (keyOf_int_mk underlying3 (by rw [<-HG.out];exact hd.game)) (Pe b (n+1) c);refine az rfl rfl rfA (fun K hK=> ?_);go_wp2_with fail;refine ap ?_;have hgm3:=hm3.perm (l':=kZ (V.l++ [x]) (upd V.f g b) (upd V.fc g c)) (by rw [HN.out];exact CH HG.out hf V.f V.fc b c);have hz3:=ht3.grown.size;have hkeep3:∀y,y<W1.heap.size->(∀q:g<aP V.l,y≠V.f g)->y≠V.mg->w3.heap[y]? =W1.heap[y]? :=fun y hy q e=>(ht3.grown.block y oA (by simpa using e)).trans (hkeep2 y hy q);have nvm:V.v≠V.mg:=h1.blk.ne_gmap h1.gm;have bX3:Blk w3 X (ak x hx).toArray 40:=(hkeep3 X hXl nX (bX.ne_gmap h1.gm)).trans bX;have bV3:Blk w3 V.v (aQ V) 93:=(hkeep3 V.v hvl nv nvm).trans h1.blk;have hrow3:Own w3 B 3 1 (some ⟨b,0,none⟩) (n+1) c (iB V.l g++ [.int .i64 (k:Int)]):=how.keepAt fun ad e=>by
  cases e;obtain ⟨_,hl,cur,hb⟩:=how.block_lt rfl;exact ht3.grown.block _ hl (by simpa using hb.ne_gmap hgm2)
 have hdeeds3:Own w3 B 40 15 V.da k V.dc (dv V.ds):=by
  rw [HK.out];refine h1.deeds.keepAt fun ad e=> ?_;obtain ⟨_,hl,cur,hb⟩:=h1.deeds.block_lt e;exact hkeep3 _ hl (fun q=>by obtain ⟨cur2,hb2⟩:=hfB q;exact hb.ne hb2 dcA) (hb.ne_gmap h1.gm)
 have hT3:aJ (fun y=>y=V.v\/y=V.mg\/(g<aP V.l/\y=V.f g)\/atB V.da y) w w3:=by
  refine (aJ.of_below hb1).trans (G:=fun y=>y=V.v\/y=V.mg\/(g<aP V.l/\y=V.f g)\/atB V.da y) ⟨ht3.grown.os.trans hg2.os,ht3.grown.tape.trans hg2.tape,ht3.grown.output.trans hg2.output,oA,fun y hy hF=>hkeep3 y hy (fun q e=>hF (.inr (.inr (.inl ⟨q,e⟩)))) fun e=>hF (.inr (.inl e))⟩ fun y hy=> .inl hy
 have hsub:∀y,(y=V.v\/y=V.mg\/(g<aP V.l/\y=V.f g)\/atB V.da y)->dW V y:=by
  rintro y (rfl|rfl|⟨hg,rfl⟩|ha)
  .exact .inl rfl
  .exact .inr (.inr (.inr (.inr (.inl rfl))))
  .exact .inr (.inr (.inr (.inr (.inr (.inr (.inl ⟨g,hg,rfl⟩))))))
  .exact .inr (.inr (.inl ha))
 have hdX:∀ad,V.da=some ad->ad.block<w.heap.size:=fun ad e=>(h.deeds.block_lt e).2.1;have hbw2:(g<aP V.l/\b=V.f g)\/w.heap.size<=b:=by
  rcases hbw with ⟨ad,e,e2⟩|h2
  .exact .inl ⟨(hsa ad e).1,e2.trans (hsa ad e).2⟩
  .refine .inr ?_;simp at h2;omega
 have hb3lt:b<w3.heap.size:=(hrow3.block_lt rfl).2.1;clear hkeep3 hkeep2 hne hfB nv nX nm hrun hm3 ht3 hgm2 how hg2 hbw hown2 L0 L1 L2 hown1 h1 bX hb1 hvl hXl hgl hw1;go_upto_region 2 with fail;have M0:∀W,aq (fun y=>y=V.v\/y=X) w3.drew W->∀i,W.cell? ⟨V.v,i,none⟩=(aQ V)[i]? :=fun W hW i=>(VJ (a:=⟨V.v,i,none⟩) (hW.2 V.v (.inl rfl))).trans (bV3.rule i);have M1:∀W,aq (fun y=>y=V.v\/y=X) w3.drew W->∀j (hj:j<(ak x hx).length),W.cell? ⟨X,0+j,none⟩=some (ak x hx)[j]:=fun W hW j hj=>(VJ (a:=⟨X,0+j,none⟩) (hW.2 X (.inr rfl))).trans (bX3.cells j hj);unfold aQ at M0;rw [<-HK.out] at M0;refine aj true (aq (fun y=>y=V.v\/y=X)) (aq.refl _) (fun _ _ _ h1 h2=>aq.trans h1 h2) (.step 0 (.step 1 (.step 2 (.step 3 (.step 4 (.step 5 (.step 6 (.step 7 (.step 8 (.step 9 (.step 10 (.step 11 .done)))))))))))) krA krA cdA ?_
 repeat (first|refine tsA ?_|refine tqA ?_)
 refine ci (v:= .agg (ak x hx).toArray) rfl rfl rfA (fun W hW=>aI 40 aZ _ rfl rfl rfl (M1 W hW) rfl) ?_;simp only [Act.put,sTA,List.set];refine an rfl rfl rfA (fun K hK=> ?_);go_wp2_with fail;refine (pf x hx w3.drew (hda _ (hT3.mono hsub).drew)).mono ?_;rintro e w4 ⟨h',rfl,hdo4,hb4⟩;have hVl3:=bV3.lt;have hXl3:=bX3.lt;go_wp2_with fail;refine hK _ _ (aq.below hb4 fun y hy=>by rcases hy with rfl|rfl<;>assumption) ?_
 clear hK K;refine an rfl rfl rfA (fun K hK=> ?_);rw [aH];have hl15:(ak x h').length=15:=rfl;go_wp2_with fail;rw [kx];have hz4:=hb4.size;have hV4:V.v<w4.heap.size:=VF hVl3 hz4;have hX4:X<w4.heap.size:=VF hXl3 hz4;have bV4:Blk w4 V.v (aQ V) 93:=bV3.drew.old hb4;have bX4:Blk w4 X (ak x hx).toArray 40:=bX3.drew.old hb4;have hdeeds4:Own w4 B 40 15 V.da k V.dc (dv V.ds):=hdeeds3.drew.old hb4;have hrow4:Own w4 B 3 1 (some ⟨b,0,none⟩) (n+1) c (iB V.l g++ [.int .i64 (k:Int)]):=hrow3.drew.old hb4;have hgm4:=hgm3.keep (hb4.block _ hgm3.lt);have hw3:=hT3.size;refine hK _ _ (aq.below ((AT _ w4).alloc (Lt _) _) fun y hy=>by rcases hy with rfl|rfl<;>assumption) ?_
 clear hK K;refine an rfl rfl rfA (fun K hK=> ?_);refine fW (.tmp 28) (.tmp 31) 23 rfl vd rfl (hdeeds4.alloc _) rfl (aw.new' w4 (ak x h').toArray 40 _ rfl) rfA oA (by exact dg _ rfl) mxA oA (by simp;simp at hz4;omega) ?_;intro b2 c2 w5 hrd hg5 hb2w;have hne5:∀r,(Value.slice V.da k V.dc).ownBlock=some r->∃ad,V.da=some ad/\r=ad.block:=fun r e=>by
  cases hda:V.da with
  |none=>rw [hda] at e;cases e
  |some ad=>rw [hda] at e;simp [Value.ownBlock] at e;exact ⟨ad,rfl,e.symm⟩
 have hkeep5:∀y cs t,Blk w4 y cs t->(t=40->w.heap.size<=y)->w5.heap[y]? =w4.heap[y]? :=fun y cs t hb q=>by
  refine (hg5.block y (by simp;have:=hb.lt;omega) fun e=> ?_).trans (Vi _ _ _ hb.lt);obtain ⟨ad,e1,e2⟩:=hne5 y e.symm;obtain ⟨_,_,cur,hb2⟩:=hdeeds4.block_lt e1;subst e2;by_cases ht:t=40
  .have:=q ht;have:=hdX ad e1;omega
  .exact hb.ne hb2 ht rfl
 have bV5:Blk w5 V.v (aQ V) 93:=(hkeep5 _ _ _ bV4 (fun e=>absurd e dcA)).trans bV4;have bX5:Blk w5 X (ak x hx).toArray 40:=(hkeep5 _ _ _ bX4 (fun _=>hXw)).trans bX4;refine hK _ _ ⟨hg5.size,fun y hy=> ?_⟩ ?_
 .rcases hy with rfl|rfl
  .exact (hkeep5 _ _ _ bV4 (fun e=>absurd e dcA)).trans (Vi _ _ _ hV4).symm
  .exact (hkeep5 _ _ _ bX4 (fun _=>hXw)).trans (Vi _ _ _ hX4).symm
 clear hK K
 repeat (first|refine tsA ?_|refine tqA ?_)
 have f5:=bV5.free;have c5:w5.cell? ⟨V.v,2,none⟩=some (.slice V.da V.ds.length V.dc):=bV5.cell rfl;refine az rfl rfl rfA (fun K hK=> ?_);go_wp2_with fail;refine ap ?_;go_wp2_with fail;go_end0;have hnv:∀y cs t,Blk w5 y cs t->t≠93->y≠V.v:=fun y cs t hb ht=>hb.ne bV5 ht;have hgm5:iP w5 prog 3 Rs V.mg (kZ (V.l++ [x]) (upd V.f g b) (upd V.fc g c)):=hgm4.keep (by
  refine (hg5.block V.mg (by simp;have:=hgm4.lt;omega) fun e=> ?_).trans (Vi _ _ _ hgm4.lt);obtain ⟨ad,e1,e2⟩:=hne5 _ e.symm;obtain ⟨_,_,cur,hb2⟩:=hdeeds4.block_lt e1;exact (hb2.ne_gmap hgm4) e2.symm)
 have hrow5:Own w5 B 3 1 (some ⟨b,0,none⟩) (n+1) c (iB V.l g++ [.int .i64 (k:Int)]):=hrow4.keepAt fun ad e=>by
  obtain ⟨_,hl,cur,hb⟩:=hrow4.block_lt e;exact hkeep5 _ _ _ hb (fun e=>absurd e dcA)
 have hdo5:aX w5 w3.drew.heap.size x h':=hdo4.keepB fun y hy=>by
  obtain ⟨_,_,cur,t,hb,ht⟩:=hdo4.innerLt hy;exact hkeep5 _ _ _ hb (fun e=>by rcases ht with rfl|rfl<;>exact absurd e dcA)
 have hT5:aJ (fun y=>y=V.v\/y=V.mg\/(g<aP V.l/\y=V.f g)\/atB V.da y) w w5:=by
  have t1:aJ (fun y=>y=V.v\/y=V.mg\/(g<aP V.l/\y=V.f g)\/atB V.da y) w3 w4:=aJ.of_below (rO hb4);have t2:aJ (fun y=>y=V.v\/y=V.mg\/(g<aP V.l/\y=V.f g)\/atB V.da y) (w4.alloc (.cells (ak x h').toArray 40)) w5:=⟨hg5.os,hg5.tape,hg5.output,hg5.size,fun y hy hF=>hg5.block y hy fun e=>by
   obtain ⟨ad,e1,e2⟩:=hne5 y e.symm;exact hF (.inr (.inr (.inr ⟨ad,e1,e2⟩)))⟩
  exact (hT3.trans t1 fun _ h=> .inl h).trans (((aJ.refl _ w4).alloc _).trans t2 fun _ h=> .inl h) fun _ h=> .inl h
 have hend:=EV (w':=w5.setCell ⟨V.v,2,none⟩ (.slice (some ⟨b2,0,none⟩) (k+1) c2)) h (h':=h') (g:=g) (b:=b) (c:=c) (b2:=b2) (c2:=c2) HG.out hm hf hd.okD hc
  (hT5.setCell (x:=⟨V.v,2,none⟩) (.inl (.inl rfl)) _) (by
   have:=bV5.set 2 (.slice (some ⟨b2,0,none⟩) (k+1) c2);rw [HK.out] at this⊢;simpa [aQ,oC] using this) (hgm5.keep (VU w5 ⟨V.v,2,none⟩ V.mg _ fun e=>nvm e.symm))
  (by rw [<-HN.out,<-HK.out];exact hrow5.setCell_apart bV5 dcA 2 _) hbw2 (by rw [<-HK.out];exact hrd.setCell_apart bV5 dcA 2 _)
  (hb2w.imp (fun ⟨ad,e1,e2⟩=>⟨ad,e1,e2⟩) (fun q=>by simp at q;simp at hz4;omega)) ((hdo5.cell1 bV5 dcA dcA _).lower soA)
  (fun y hy=>by
   have q:=(hdo5.innerLt hy).1;simp at q;exact ⟨oA,oA⟩)
 exact ⟨_,rfl,hend,Gm _ _ _ _ _ _ _ _,rfl,rfl⟩
end
end Go.Proofs.YtioigihakjlopaaGreat

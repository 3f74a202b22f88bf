/- Texts put together and cut to what is used: RDPut, VaultM, Vault. -/
import Derived.Test.YtioigihakjlopaaGreatVK34
import Derived.Test.YtioigihakjlopaaGreatVK36
import Derived.DeepKeys4
namespace Go.Proofs.YtioigihakjlopaaGreat
set_option linter.unusedVariables false
set_option linter.unusedSimpArgs false
section
open Go.RowKit Go.Maps
theorem DiskOk.sub {p:DiskP} (h:DiskOk p) {fs:List FileP} (hs:fs.Sublist p.fs):DiskOk {p with fs:=fs}:=
 ⟨(hs.map _).nodup h.names,fun f hf=>h.named f (hs.subset hf),fun f hf=>h.sure f (hs.subset hf),fun f hf=>h.size f (hs.subset hf),Nat.le_trans hs.length_le h.count,h.left⟩
section
variable {P:Program}
theorem run_append_where (t ty:TypeId) {e:TypeId} {size bytes:Nat} (hT:RowType P t e size bytes) {w:World} {B:Nat} {sa:Option Addr} {n sc:Nat} {vs:List Value} (h:Own w B e size sa n sc vs)
  {xa:Option Addr} {m xc:Nat} {news:List Value} (hrow:RowAt w xa news) (hl:news.length=m*size) (hm:0<m) (h1:∀u∈news,u.oneCell'=true) (h63:n+m≤maxLen) (hbytes:(n+m)*bytes≤140737488355328) (hB:B≤w.heap.size):
  ∃b c' w',(Builtin.append_ #[t,t] ty #[.slice sa n sc,.slice xa m xc]).run P w= .ok (.slice (some ⟨b,0,none⟩) (n+m) c') w'∧Own w' B e size (some ⟨b,0,none⟩) (n+m) c' (vs++news)∧w.grownBy w' (Value.slice sa n sc).ownBlock∧
   ((∃ad,sa=some ad∧b=ad.block)∨w.heap.size≤b):=by
 obtain ⟨ht,hsz,i,z,hi,hz,hsize,hby,hzs⟩:=hT
 obtain ⟨b0,o0,rfl,_⟩:=hrow 0 (by rw [hl];exact Nat.mul_pos hm hsz)
 have hnews:∀j u,news[j]? =some u→w.cell? ((⟨b0,o0,none⟩:Addr).add j)=some u:=fun j u hu=>by
  obtain ⟨hj,rfl⟩:=List.getElem?_eq_some_iff.1 hu
  obtain ⟨b',o',he,hc⟩:=hrow j hj
  cases he
  rw [Addr.add_mid];exact hc
 obtain ⟨v',w2,q0,q1,q2,_⟩:=run_append_own (P:=P) w B t ty e i z size bytes ht hi hz hsize hby hzs hsz (.slice sa n sc) n vs h ⟨b0,o0,none⟩ m xc news hl hnews h1 h63 hbytes hB
 have h63':n+m≤9223372036854775807:=by simp only [maxLen] at h63;omega
 subst hsize
 subst hby
 rcases h.2 with ⟨k1,k2⟩|⟨g,cap,cur,k1,hbg,hg,hnc,hcm,hcs,htake⟩
 ·simp only [Value.slice.injEq] at k1
  obtain ⟨rfl,rfl,rfl⟩:=k1
  have hx:vs=[]:=List.eq_nil_of_length_eq_zero (by simpa using h.1)
  subst hx
  have hr:=run_append_nil (P:=P) w t ty e i z ht hi hz ⟨b0,o0,none⟩ m xc news hl hnews (by omega) (by omega) (by have hb:=hbytes;simp only [Nat.zero_add] at hb;omega)
  rw [hr] at q0
  simp only [Result.ok.injEq] at q0
  obtain ⟨rfl,rfl⟩:=q0
  rw [show m=0+m from (Nat.zero_add m).symm] at hr
  exact ⟨_,_,_,by simpa using hr,by simpa [Own] using q1,q2,.inr (Nat.le_refl _)⟩
 ·simp only [Value.slice.injEq] at k1
  obtain ⟨rfl,-,rfl⟩:=k1
  by_cases hroom:n+m≤sc
  ·have hfit:n*i.size+news.length≤cur.size:=by rw [hl,hcs,←Nat.add_mul];exact Nat.mul_le_mul_right _ hroom
   have hr:=run_append_room (P:=P) w t ty e i ht hi g n sc cur hg ⟨b0,o0,none⟩ m xc news hl hnews h1 hroom hfit
   rw [hr] at q0
   simp only [Result.ok.injEq] at q0
   obtain ⟨rfl,rfl⟩:=q0
   exact ⟨_,_,_,hr,q1,q2,.inl ⟨_,rfl,rfl⟩⟩
  ·have hr:=run_append_grow (P:=P) w t ty e i z ht hi hz ⟨g,0,none⟩ n sc vs h.1 (World.ownsRow.cells h (g:=g) rfl) ⟨b0,o0,none⟩ m xc news hl hnews (by omega) (by omega) (growslice_fits (by omega) hbytes)
   rw [hr] at q0
   simp only [Result.ok.injEq] at q0
   obtain ⟨rfl,rfl⟩:=q0
   exact ⟨_,_,_,hr,q1,q2,.inr (Nat.le_refl _)⟩
theorem wp_append_where {w:World} {o:Oper} {a:Act} {K:Act→World→Prop} {Q:Exit→Act→World→Prop} (s x:Operand) (t:TypeId) (ho:o.op= .call {callee:= .builtin .append,args:= #[s,x],argTypes:= #[t,t]})
  {e:TypeId} {size bytes:Nat} (hT:RowType P t e size bytes) {B:Nat} {sa:Option Addr} {n sc:Nat} {vs:List Value} (hs:a.eval s= .slice sa n sc) (h:Own w B e size sa n sc vs)
  {xa:Option Addr} {m xc:Nat} {news:List Value} (hx:a.eval x= .slice xa m xc) (hrow:RowAt w xa news) (hl:news.length=m*size) (hm:0<m) (h1:∀u∈news,u.oneCell'=true) (h63:n+m≤maxLen) (hbytes:(n+m)*bytes≤140737488355328) (hB:B≤w.heap.size)
  (hK:∀b c' w',Own w' B e size (some ⟨b,0,none⟩) (n+m) c' (vs++news)→w.grownBy w' (Value.slice sa n sc).ownBlock→((∃ad,sa=some ad∧b=ad.block)∨w.heap.size≤b)→K (a.put o.dst (.slice (some ⟨b,0,none⟩) (n+m) c')) w'):o.wp P a w K Q:=by
 obtain ⟨b,c',w',hrun,r1,r2,r3⟩:=run_append_where (P:=P) t o.type hT h hrow hl hm h1 h63 hbytes hB (xc:=xc)
 unfold Oper.wp
 simp [execOp,ho,resolve,invoke,builtin,hs,hx,hrun,Result.andThen]
 exact hK b c' w' r1 r2 r3
end
def encS (b n c:Nat):DU:= .agg [.lit (.int .i64 (b:Int)),.lit (.int .i64 (n:Int)),.lit (.int .i64 (c:Int))]
def Rs (v:Value):Option (DU×List MemPlace):=match v with
 | .slice (some ⟨b,0,none⟩) n c=>some (encS b n c,[])
 | .slice none 0 0=>some (.agg [],[])
 |_=>none
def Rb (v:Value):Option (DU×List MemPlace):=match v with
 | .pointer (some ⟨b,0,none⟩)=>some (.lit (.int .i64 (b:Int)),[])
 | .pointer none=>some (.agg [],[])
 |_=>none
theorem Rs_mk (b n c:Nat):Rs (.slice (some ⟨b,0,none⟩) n c)=some (encS b n c,[]):=rfl
theorem Rs_inv {v:Value} {b n c:Nat} {ps:List MemPlace} (h:Rs v=some (encS b n c,ps)):v= .slice (some ⟨b,0,none⟩) n c:=by
 unfold Rs at h
 split at h
 ·simp only [encS,Option.some.injEq,Prod.mk.injEq,DataW.agg.injEq,List.cons.injEq,DataW.lit.injEq,Lit.int.injEq,true_and,and_true,Int.natCast_inj] at h
  obtain ⟨⟨rfl,rfl,rfl⟩,-⟩:=h
  rfl
 ·simp [encS] at h
 ·cases h
theorem Rb_mk (b:Nat):Rb (.pointer (some ⟨b,0,none⟩))=some (.lit (.int .i64 (b:Int)),[]):=rfl
theorem Rb_inv {v:Value} {b:Nat} {ps:List MemPlace} (h:Rb v=some (.lit (.int .i64 (b:Int)),ps)):v= .pointer (some ⟨b,0,none⟩):=by
 unfold Rb at h
 split at h
 ·simp only [Option.some.injEq,Prod.mk.injEq,DataW.lit.injEq,Lit.int.injEq,true_and,Int.natCast_inj] at h
  rw [h.1]
 ·simp at h
 ·cases h
theorem zeroRow (w:World):(zeroValue 34).run Tryz.prog w= .ok (.slice none 0 0) w:=by kernel_rfl
theorem zeroBox (w:World):(zeroValue 102).run Tryz.prog w= .ok (.pointer none) w:=by kernel_rfl
theorem keyIv:Keyed Tryz.prog 3:=int_keyed Tryz.underlying3
def keyV (n:Nat):Lit:= .int .i64 (n:Int)
theorem keyOfV {n:Nat} (h:n≤1000000000000000):keyOf Tryz.prog 3 (.int .i64 (n:Int))=some (keyV n):=keyOf_int_mk Tryz.underlying3 (wf64_small h)
theorem keyV_inj {a b:Nat}:keyV a=keyV b↔a=b:=by simp [keyV];omega
def atB (a:Option Addr) (x:Nat):Prop:=∃ad,a=some ad∧x=ad.block
def innerI (h:DeedH) (x:Nat):Prop:=atB h.d0.a x∨atB h.d1.a x∨atB h.dr.a x∨atB h.act.ids.a x
def inner (h:DeedH) (x:Nat):Prop:=innerI h x∨atB h.act.pairs.a x
section
variable {w w':World} {B:Nat} {p:DeedP} {h:DeedH}
theorem OwnInts.keepB {s:Sl} {l:List Int} (h:OwnInts w B s l) (hk:∀x,atB s.a x→w'.heap[x]? =w.heap[x]?):OwnInts w' B s l:=by
 have h1:=h.1.keepAt (w':=w') fun x hx=>hk _ ⟨x,hx,rfl⟩
 exact ⟨h1,h1.row,h.2.2⟩
theorem OwnPairs.keepB {s:Sl} {l:List PairL} (h:OwnPairs w B s l) (hk:∀x,atB s.a x→w'.heap[x]? =w.heap[x]?):OwnPairs w' B s l:=by
 have h1:=h.1.keepAt (w':=w') fun x hx=>hk _ ⟨x,hx,rfl⟩
 exact ⟨h1,h1.row,h.2.2⟩
theorem DeedOwn.keepB (a:DeedOwn w B p h) (hk:∀x,inner h x→w'.heap[x]? =w.heap[x]?):DeedOwn w' B p h:=
 ⟨a.kind,a.game,a.table,a.fmt,a.n0,a.n1,a.d0.keepB fun x hx=>hk x (.inl (.inl hx)),a.d1.keepB fun x hx=>hk x (.inl (.inr (.inl hx))),a.dr.keepB fun x hx=>hk x (.inl (.inr (.inr (.inl hx)))),
  ⟨a.act.op,a.act.side,a.act.place,a.act.target,a.act.ids.keepB fun x hx=>hk x (.inl (.inr (.inr (.inr hx)))),a.act.pairs.keepB fun x hx=>hk x (.inr hx)⟩⟩
theorem DeedOwn.innerLt (a:DeedOwn w B p h) {x:Nat} (hx:inner h x):B≤x∧x<w.heap.size∧∃cur t,Blk w x cur t∧(t=3∨t=157):=by
 have go:∀{s:Sl} {l:List Int},OwnInts w B s l→atB s.a x→B≤x∧x<w.heap.size∧∃cur t,Blk w x cur t∧(t=3∨t=157):=fun ho ⟨ad,ha,e⟩=>by
  obtain ⟨h1,h2,cur,h3⟩:=ho.1.block_lt ha
  subst e
  exact ⟨h1,h2,cur,_,h3,.inl rfl⟩
 rcases hx with (hx|hx|hx|hx)|⟨ad,ha,e⟩
 ·exact go a.d0 hx
 ·exact go a.d1 hx
 ·exact go a.dr hx
 ·exact go a.act.ids hx
 ·obtain ⟨h1,h2,cur,h3⟩:=a.act.pairs.1.block_lt ha
  subst e
  exact ⟨h1,h2,cur,_,h3,.inr rfl⟩
end
structure VaultR where
 v:Nat
 ma:Option Addr
 mc:Nat
 m:List UInt8
 R:LogR
 da:Option Addr
 dc:Nat
 ds:List (DeedP×DeedH)
 mg:Nat
 f:Nat→Nat
 fc:Nat→Nat
 mb:Nat
 bl:List (Nat×Nat)
 down:Bool
def VaultR.l (V:VaultR):List DeedP:=V.ds.map Prod.fst
def vaultCells (V:VaultR):Array Value:= #[.slice V.ma V.m.length V.mc,.pointer (some ⟨V.R.l,0,none⟩),.slice V.da V.ds.length V.dc,.map (some V.mg),.map (some V.mb),.bool V.down]
def dcells (ds:List (DeedP×DeedH)):List Value:=ds.flatMap fun x=>deedCells x.1 x.2
def placesV (l:List DeedP) (g:Nat):List Value:=(placesOf l (g:Int)).map fun (j:Nat)=>Value.int .i64 (j:Int)
def entsG (l:List DeedP) (f fc:Nat→Nat):List (Lit×DU):=(List.range (gamesN l)).map fun g=>(keyV g,encS (f g) (placesOf l (g:Int)).length (fc g))
def entB (y:Nat×Nat):Lit×DU:=(keyV y.1,.lit (.int .i64 (y.2:Int)))
def vrest (V:VaultR) (x:Nat):Prop:=x=V.v∨atB V.ma x∨atB V.da x∨(∃y∈V.ds,inner y.2 x)∨x=V.mg∨x=V.mb∨(∃g,g<gamesN V.l∧x=V.f g)∨∃y∈V.bl,x=y.2
structure VaultAt (w:World) (B d:Nat) (V:VaultR):Prop where
 ge:B≤V.v∧B≤V.mg∧B≤V.mb∧V.mg≠V.mb
 blk:Blk w V.v (vaultCells V) 93
 master:Own w B 5 1 V.ma V.m.length V.mc (V.m.map bv)
 mz:V.m.length≤1000000
 log:LogAt w B d V.R
 deeds:Own w B 40 15 V.da V.ds.length V.dc (dcells V.ds)
 each:∀x∈V.ds,DeedOwn w B x.1 x.2
 gm:GMap w Tryz.prog 3 Rs V.mg (entsG V.l V.f V.fc)
 rows:∀g,g<gamesN V.l→Own w B 3 1 (some ⟨V.f g,0,none⟩) (placesOf V.l (g:Int)).length (V.fc g) (placesV V.l g)
 sepf:∀g g',g<gamesN V.l→g'<gamesN V.l→V.f g=V.f g'→g=g'
 sepi:∀g,g<gamesN V.l→∀x∈V.ds,¬innerI x.2 (V.f g)
 bm:GMap w Tryz.prog 3 Rb V.mb (V.bl.map entB)
 boxes:∀y∈V.bl,B≤y.2∧y.1≤4096∧BoxAt w y.2 V.m y.1
 sepl:∀x,vrest V x→¬lfoot V.R x
 good:GoodD V.l
 cnt:V.ds.length≤V.R.ls.length
section
variable {w w' w'':World} {B d:Nat} {V V' V'':VaultR} {r r' r'':DiskR}
theorem VaultR.len (V:VaultR):V.l.length=V.ds.length:=List.length_map ..
theorem VaultAt.small (h:VaultAt w B d V):V.ds.length≤4096∧gamesN V.l≤4096∧∀g,(placesOf V.l g).length≤4096:=by
 have h1:=h.cnt
 have h2:=h.log.cnt
 have h3:=gamesN_le V.l
 rw [V.len] at h3
 refine ⟨by omega,by omega,fun g=> ?_⟩
 have h4:=ofG_le V.l g
 rw [V.len] at h4
 rw [placesOf_len]
 omega
theorem VaultAt.keep (h:VaultAt w B d V) (hk:∀x,lfoot V.R x∨vrest V x→w'.heap[x]? =w.heap[x]?):VaultAt w' B d V:=
 ⟨h.ge,(hk _ (.inr (.inl rfl))).trans h.blk,h.master.keepAt fun x hx=>hk _ (.inr (.inr (.inl ⟨x,hx,rfl⟩))),h.mz,h.log.keep fun x hx=>hk _ (.inl hx),
  h.deeds.keepAt fun x hx=>hk _ (.inr (.inr (.inr (.inl ⟨x,hx,rfl⟩)))),fun x hx=>(h.each x hx).keepB fun y hy=>hk _ (.inr (.inr (.inr (.inr (.inl ⟨x,hx,hy⟩))))),
  h.gm.keep (hk _ (.inr (.inr (.inr (.inr (.inr (.inl rfl))))))),fun g hg=>(h.rows g hg).keepAt fun x hx=>hk _ (.inr (.inr (.inr (.inr (.inr (.inr (.inr (.inl ⟨g,hg,by cases hx;rfl⟩)))))))),
  h.sepf,h.sepi,h.bm.keep (hk _ (.inr (.inr (.inr (.inr (.inr (.inr (.inl rfl)))))))),fun y hy=>⟨(h.boxes y hy).1,(h.boxes y hy).2.1,(hk _ (.inr (.inr (.inr (.inr (.inr (.inr (.inr (.inr ⟨y,hy,rfl⟩))))))))).trans (h.boxes y hy).2.2⟩,h.sepl,h.good,h.cnt⟩
theorem VaultAt.ltR (h:VaultAt w B d V) {x:Nat} (hx:vrest V x):B≤x∧x<w.heap.size:=by
 rcases hx with rfl|⟨ad,ha,rfl⟩|⟨ad,ha,rfl⟩|⟨y,hy,hi⟩|rfl|rfl|⟨g,hg,rfl⟩|⟨y,hy,rfl⟩
 ·exact ⟨h.ge.1,h.blk.lt⟩
 ·exact ⟨(h.master.block_lt ha).1,(h.master.block_lt ha).2.1⟩
 ·exact ⟨(h.deeds.block_lt ha).1,(h.deeds.block_lt ha).2.1⟩
 ·exact ⟨((h.each y hy).innerLt hi).1,((h.each y hy).innerLt hi).2.1⟩
 ·exact ⟨h.ge.2.1,h.gm.lt⟩
 ·exact ⟨h.ge.2.2.1,h.bm.lt⟩
 ·exact ⟨((h.rows g hg).block_lt rfl).1,((h.rows g hg).block_lt rfl).2.1⟩
 ·exact ⟨(h.boxes y hy).1,(h.boxes y hy).2.2.lt⟩
theorem VaultAt.lt (h:VaultAt w B d V) {x:Nat} (hx:lfoot V.R x∨vrest V x):B≤x∧x<w.heap.size:=hx.elim h.log.lt h.ltR
theorem VaultAt.old (h:VaultAt w B d V) (hb:Below w.heap.size w w'):VaultAt w' B d V:=h.keep fun x hx=>hb.block x (h.lt hx).2
structure VL (w:World) (B:Nat) (r:DiskR) (V:VaultR):Prop where
 disk:DiskAt w B r
 vault:VaultAt w B r.d V
 apart:∀x,lfoot V.R x∨vrest V x→¬foot r x
def afoot (r:DiskR) (V:VaultR) (x:Nat):Prop:=foot r x∨lfoot V.R x∨vrest V x
theorem VL.keep (h:VL w B r V) (hk:∀x,afoot r V x→w'.heap[x]? =w.heap[x]?):VL w' B r V:=⟨h.disk.keep fun x hx=>hk x (.inl hx),h.vault.keep fun x hx=>hk x (.inr hx),h.apart⟩
theorem VL.lt (h:VL w B r V) {x:Nat} (hx:afoot r V x):B≤x∧x<w.heap.size:=hx.elim h.disk.lt h.vault.lt
theorem VL.old (h:VL w B r V) (hb:Below w.heap.size w w'):VL w' B r V:=h.keep fun x hx=>hb.block x (h.lt hx).2
theorem VL.dl (h:VL w B r V):DL w B r V.R:=⟨h.disk,h.vault.log,fun x hx=>h.apart x (.inl hx)⟩
structure VStep (B:Nat) (w:World) (r:DiskR) (V:VaultR) (w':World) (r':DiskR) (V':VaultR):Prop where
 turn:Turn (afoot r V) w w'
 at':VL w' B r' V'
 foot':∀x,afoot r' V' x→afoot r V x∨w.heap.size≤x
 d:r'.d=r.d
 v:V'.v=V.v
 m:V'.m=V.m
theorem VStep.trans (h:VStep B w r V w' r' V') (h':VStep B w' r' V' w'' r'' V''):VStep B w r V w'' r'' V'':=
 ⟨h.turn.trans h'.turn h.foot',h'.at',fun x hx=>by
  rcases h'.foot' x hx with h1|h1
  ·exact h.foot' x h1
  ·exact .inr (Nat.le_trans h.turn.size h1),h'.d.trans h.d,h'.v.trans h.v,h'.m.trans h.m⟩
theorem VStep.below (h:VStep B w r V w' r' V') (hr:VL w B r V) (hB:B≤w.heap.size):Below B w w':=h.turn.below (fun _ hx=>(hr.lt hx).1) hB
theorem VStep.old (h:VL w B r V) (hb:Below w.heap.size w w'):VStep B w r V w' r V:=⟨Turn.of_below hb,h.old hb,fun _ hx=> .inl hx,rfl,rfl,rfl⟩
structure VOnly (B d:Nat) (w:World) (V:VaultR) (w':World) (V':VaultR):Prop where
 turn:Turn (vrest V) w w'
 at':VaultAt w' B d V'
 foot':∀x,vrest V' x→vrest V x∨w.heap.size≤x
 R:V'.R=V.R
 v:V'.v=V.v
 m:V'.m=V.m
 down:V'.down=V.down
theorem VOnly.refl (h:VaultAt w B d V):VOnly B d w V w V:=⟨Turn.refl _ _,h,fun _ hx=> .inl hx,rfl,rfl,rfl,rfl⟩
theorem VOnly.old (h:VaultAt w B d V) (hb:Below w.heap.size w w'):VOnly B d w V w' V:=⟨Turn.of_below hb,h.old hb,fun _ hx=> .inl hx,rfl,rfl,rfl,rfl⟩
theorem VOnly.trans (h:VOnly B d w V w' V') (h':VOnly B d w' V' w'' V''):VOnly B d w V w'' V'':=
 ⟨h.turn.trans h'.turn h.foot',h'.at',fun x hx=>by
  rcases h'.foot' x hx with h1|h1
  ·exact h.foot' x h1
  ·exact .inr (Nat.le_trans h.turn.size h1),h'.R.trans h.R,h'.v.trans h.v,h'.m.trans h.m,h'.down.trans h.down⟩
theorem VOnly.step (hs:VOnly B r.d w V w' V') (h:VL w B r V):VStep B w r V w' r V':=by
 refine ⟨hs.turn.mono fun x hx=> .inr (.inr hx),⟨h.disk.turn hs.turn fun x hx hF=>h.apart x (.inr hF) hx,hs.at',fun x hx hf=> ?_⟩,fun x hx=> ?_,rfl,hs.v,hs.m⟩
 ·rcases hx with hx|hx
  ·exact h.apart x (.inl (by rw [hs.R] at hx;exact hx)) hf
  ·rcases hs.foot' x hx with h1|h1
   ·exact h.apart x (.inr h1) hf
   ·have:=(h.disk.lt hf).2;omega
 ·rcases hx with hx|hx|hx
  ·exact .inl (.inl hx)
  ·exact .inl (.inr (.inl (by rw [hs.R] at hx;exact hx)))
  ·exact (hs.foot' x hx).imp (fun h=> .inr (.inr h)) id
theorem LStep.vault (hs:LStep B w r V.R w' r' V'.R) (h:VL w B r V) (hV:V'={V with R:=V'.R}) (hc:V.ds.length≤V'.R.ls.length):VStep B w r V w' r' V':=by
 have hvr:∀x,vrest V' x↔vrest V x:=fun x=>by rw [hV];rfl
 have hkeep:∀x,vrest V x→w'.heap[x]? =w.heap[x]? :=fun x hx=>hs.turn.block x (h.vault.ltR hx).2 fun hF=>hF.elim (fun hf=>h.apart x (.inr hx) hf) (h.vault.sepl x hx)
 have hnew:∀x,vrest V x→¬(foot r' x∨lfoot V'.R x):=fun x hx hf=>by
  rcases hs.foot' x hf with h1|h1
  ·exact h1.elim (fun hf=>h.apart x (.inr hx) hf) (h.vault.sepl x hx)
  ·have:=(h.vault.ltR hx).2;omega
 have hat:VaultAt w' B r'.d V':=by
  rw [hV]
  refine ⟨h.vault.ge,?_,h.vault.master.keepAt fun x hx=>hkeep _ (.inr (.inl ⟨x,hx,rfl⟩)),h.vault.mz,hs.at'.log,h.vault.deeds.keepAt fun x hx=>hkeep _ (.inr (.inr (.inl ⟨x,hx,rfl⟩))),
   fun x hx=>(h.vault.each x hx).keepB fun y hy=>hkeep _ (.inr (.inr (.inr (.inl ⟨x,hx,hy⟩)))),h.vault.gm.keep (hkeep _ (.inr (.inr (.inr (.inr (.inl rfl)))))),
   fun g hg=>(h.vault.rows g hg).keepAt fun x hx=>hkeep _ (.inr (.inr (.inr (.inr (.inr (.inr (.inl ⟨g,hg,by cases hx;rfl⟩))))))),h.vault.sepf,h.vault.sepi,h.vault.bm.keep (hkeep _ (.inr (.inr (.inr (.inr (.inr (.inl rfl))))))),
   fun y hy=>⟨(h.vault.boxes y hy).1,(h.vault.boxes y hy).2.1,(hkeep _ (.inr (.inr (.inr (.inr (.inr (.inr (.inr ⟨y,hy,rfl⟩)))))))).trans (h.vault.boxes y hy).2.2⟩,fun x hx=>fun hl=>hnew x hx (.inr hl),h.vault.good,hc⟩
  have e:vaultCells {V with R:=V'.R}=vaultCells V:=by unfold vaultCells;dsimp only;rw [hs.l]
  rw [e]
  exact (hkeep _ (.inl rfl)).trans h.vault.blk
 refine ⟨hs.turn.mono fun x hx=>hx.elim .inl fun h=> .inr (.inl h),⟨hs.at'.disk,hat,fun x hx hf=> ?_⟩,fun x hx=> ?_,hs.d,by rw [hV],by rw [hV]⟩
 ·rcases hx with hx|hx
  ·exact hs.at'.apart x hx hf
  ·exact hnew x ((hvr x).1 hx) (.inl hf)
 ·rcases hx with hx|hx|hx
  ·exact (hs.foot' x (.inl hx)).imp (fun h=>h.elim .inl fun h=> .inr (.inl h)) id
  ·exact (hs.foot' x (.inr hx)).imp (fun h=>h.elim .inl fun h=> .inr (.inl h)) id
  ·exact .inl (.inr (.inr ((hvr x).1 hx)))
theorem DStep.vault (hs:DStep B w r w' r') (h:VL w B r V):VStep B w r V w' r' V:=LStep.vault (DStep.log hs h.dl) h rfl h.vault.cnt
end
section
variable {w:World} {B d:Nat} {V:VaultR}
theorem entsG_mem {l:List DeedP} {f fc:Nat→Nat} {g:Nat} (hg:g<gamesN l):(keyV g,encS (f g) (placesOf l (g:Int)).length (fc g))∈entsG l f fc:=List.mem_map.2 ⟨g,List.mem_range.2 hg,rfl⟩
theorem entsG_no {l:List DeedP} {f fc:Nat→Nat} {g:Nat} (hg:gamesN l≤g):keyV g∉(entsG l f fc).map Prod.fst:=fun h=>by
 unfold entsG at h
 rw [List.map_map] at h
 obtain ⟨k,hk,e⟩:=List.mem_map.1 h
 have:=List.mem_range.1 hk
 have e2:keyV k=keyV g:=e
 rw [keyV_inj] at e2
 omega
theorem VaultAt.look (h:VaultAt w B d V) {g:Nat} (hg:g<gamesN V.l) (b:Bool):(Instr.lookup 90 (.map (some V.mg)) (.int .i64 (g:Int)) b).run Tryz.prog w= .ok (if b then .tuple #[.slice (some ⟨V.f g,0,none⟩) (placesOf V.l (g:Int)).length (V.fc g),.bool true] else .slice (some ⟨V.f g,0,none⟩) (placesOf V.l (g:Int)).length (V.fc g)) w:=by
 have hk:=keyOfV (n:=g) (by have:=h.small.2.1;omega)
 cases b with
 |true=>
  obtain ⟨v,ps,hr,hv⟩:=h.gm.look_ok keyIv Tryz.underlying90 (zeroRow w) (show Rs (.slice none 0 0)=some (.agg [],[]) from rfl) hk (entsG_mem hg)
  rw [hr,Rs_inv hv];rfl
 |false=>
  obtain ⟨v,ps,hr,hv⟩:=h.gm.look keyIv Tryz.underlying90 (zeroRow w) (show Rs (.slice none 0 0)=some (.agg [],[]) from rfl) hk (entsG_mem hg)
  rw [hr,Rs_inv hv];rfl
theorem Rs_zero {v:Value} {ps:List MemPlace} (h:Rs v=some (.agg [],ps)):v= .slice none 0 0:=by
 unfold Rs at h
 split at h
 ·simp [encS] at h
 ·rfl
 ·cases h
theorem Rb_zero {v:Value} {ps:List MemPlace} (h:Rb v=some (.agg [],ps)):v= .pointer none:=by
 unfold Rb at h
 split at h
 ·simp at h
 ·rfl
 ·cases h
theorem VaultAt.look_no (h:VaultAt w B d V) {n:Int} (hw:(Lit.int .i64 n).wf=true) (hn:¬(0≤n∧n<(gamesN V.l:Int))) (b:Bool):(Instr.lookup 90 (.map (some V.mg)) (.int .i64 n) b).run Tryz.prog w= .ok (if b then .tuple #[.slice none 0 0,.bool false] else .slice none 0 0) w:=by
 have hk:keyOf Tryz.prog 3 (.int .i64 n)=some (.int .i64 n):=keyOf_int_mk Tryz.underlying3 hw
 have hno:(Lit.int .i64 n)∉(entsG V.l V.f V.fc).map Prod.fst:=fun hm=>by
  unfold entsG at hm
  rw [List.map_map] at hm
  obtain ⟨k,hk,e⟩:=List.mem_map.1 hm
  have:=List.mem_range.1 hk
  have e2:keyV k= .int .i64 n:=e
  simp only [keyV,Lit.int.injEq,true_and] at e2
  omega
 cases b with
 |true=>
  obtain ⟨v,ps,hr,hv⟩:=h.gm.look_ok_no keyIv Tryz.underlying90 (zeroRow w) (show Rs (.slice none 0 0)=some (.agg [],[]) from rfl) hk hno
  rw [hr,Rs_zero hv];rfl
 |false=>
  obtain ⟨v,ps,hr,hv⟩:=h.gm.look_no keyIv Tryz.underlying90 (zeroRow w) (show Rs (.slice none 0 0)=some (.agg [],[]) from rfl) hk hno
  rw [hr,Rs_zero hv];rfl
theorem entsG_len (l:List DeedP) (f fc:Nat→Nat):(entsG l f fc).length=gamesN l:=by simp [entsG]
theorem VaultAt.size (h:VaultAt w B d V) (ty:TypeId):(Builtin.len_ #[90] ty #[.map (some V.mg)]).run Tryz.prog w= .ok (.int .i64 (gamesN V.l:Int)) w:=by
 rw [h.gm.len Tryz.underlying90 ty,entsG_len]
theorem VaultAt.lookB (h:VaultAt w B d V) {y:Nat×Nat} (hy:y∈V.bl):(Instr.lookup 91 (.map (some V.mb)) (.int .i64 (y.1:Int)) false).run Tryz.prog w= .ok (.pointer (some ⟨y.2,0,none⟩)) w:=by
 have hk:=keyOfV (n:=y.1) (by have:=(h.boxes y hy).2.1;omega)
 obtain ⟨v,ps,hr,hv⟩:=h.bm.look keyIv Tryz.underlying91 (zeroBox w) (show Rb (.pointer none)=some (.agg [],[]) from rfl) hk (List.mem_map.2 ⟨y,hy,rfl⟩)
 rw [hr,Rb_inv hv]
theorem VaultAt.noBox {g:Nat} (hn:∀y∈V.bl,y.1≠g):keyV g∉(V.bl.map entB).map Prod.fst:=fun hm=>by
 rw [List.map_map] at hm
 obtain ⟨y,hy,e⟩:=List.mem_map.1 hm
 exact hn y hy (keyV_inj.1 e)
theorem VaultAt.lookB_no (h:VaultAt w B d V) {g:Nat} (hg:g≤4096) (hn:∀y∈V.bl,y.1≠g):(Instr.lookup 91 (.map (some V.mb)) (.int .i64 (g:Int)) false).run Tryz.prog w= .ok (.pointer none) w:=by
 have hk:=keyOfV (n:=g) (by omega)
 obtain ⟨v,ps,hr,hv⟩:=h.bm.look_no keyIv Tryz.underlying91 (zeroBox w) (show Rb (.pointer none)=some (.agg [],[]) from rfl) hk (VaultAt.noBox hn)
 rw [hr,Rb_zero hv]
end
end
section
open Go.RowKit Go.Maps
set_option maxRecDepth 20000
section
variable {w w':World} {B d:Nat} {V:VaultR}
theorem GMap.obj {P:Program} {k:TypeId} {R:Value→Option (DU×List MemPlace)} {M:Nat} {l:List (Lit×DU)} (h:GMap w P k R M l):∃es clock,w.heap[M]? =some (.map es clock):=by
 obtain ⟨D,⟨es,clock,hb,_⟩,_⟩:=h.ex
 exact ⟨es,clock,hb⟩
theorem Blk.ne_gmap {g:Nat} {cs:Array Value} {ty:TypeId} (hb:Blk w g cs ty) {P:Program} {k:TypeId} {R:Value→Option (DU×List MemPlace)} {M:Nat} {l:List (Lit×DU)} (h:GMap w P k R M l):g≠M:=fun e=>by
 obtain ⟨es,clock,hm⟩:=h.obj
 have h1:w.heap[g]? =_:=hb
 rw [e,hm] at h1
 cases h1
theorem Turn.mapTurned {F:Nat→Prop} {M:Nat} (h:w.mapTurned w' M) (hF:F M):Turn F w w':=Turn.of_grown h.grown (fun k e=>by cases e;exact hF)
theorem Turn.off {F:Nat→Prop} {a b:World} (h:Turn F a.drew b):Turn F a b:=⟨h.os,h.tape,h.output,h.size,h.block⟩
theorem nodup_lt:∀(n:Nat) (l:List Nat),l.Nodup→(∀x∈l,x<n)→l.length≤n
 |0,l,_,h=>by
  cases l with
  |nil=>exact Nat.le_refl _
  |cons x r=>exact absurd (h x (by simp)) (Nat.not_lt_zero _)
 |n+1,l,hn,h=>by
  by_cases hm:n∈l
  ·have h1:=nodup_lt n (l.erase n) (hn.erase n) (fun x hx=>by
    have h2:=(hn.mem_erase_iff).1 hx
    have:=h x h2.2
    have:=h2.1
    omega)
   rw [List.length_erase_of_mem hm] at h1
   omega
  ·have h1:=nodup_lt n l hn (fun x hx=>by
    have h2:=h x hx
    have:x≠n:=fun e=>hm (e▸hx)
    omega)
   omega
theorem VaultAt.boxN (h:VaultAt w B d V):V.bl.length≤4097:=by
 have h1:=h.bm.nd
 rw [List.map_map] at h1
 have h2:(V.bl.map Prod.fst).Nodup:=by
  have h3:((V.bl.map Prod.fst).map keyV).Nodup:=by rw [List.map_map];exact h1
  exact List.Pairwise.of_map keyV (fun a b hab e=>hab (by rw [e])) h3
 have:=nodup_lt 4097 (V.bl.map Prod.fst) h2 (fun x hx=>by
  obtain ⟨y,hy,rfl⟩:=List.mem_map.1 hx
  have:=(h.boxes y hy).2.1
  omega)
 rwa [List.length_map] at this
theorem VaultAt.boxed (h:VaultAt w B d V) (ht:w.mapTurned w' V.mb) {g b:Nat} (hg:g≤4096) (hm:GMap w' Tryz.prog 3 Rb V.mb (V.bl.map entB++ [entB (g,b)])) (hb:BoxAt w' b V.m g) (hbB:B≤b) (hf:¬lfoot V.R b):VaultAt w' B d {V with bl:=V.bl++ [(g,b)]}:=by
 have hk:∀x,x≠V.mb→x<w.heap.size→w'.heap[x]? =w.heap[x]? :=fun x hne hlt=>ht.grown.block x hlt (by simpa using hne)
 have hlf:∀x,lfoot V.R x→w'.heap[x]? =w.heap[x]? :=fun x hx=>hk x (fun e=>h.sepl V.mb (.inr (.inr (.inr (.inr (.inr (.inl rfl)))))) (e▸hx)) (h.log.lt hx).2
 have hc:∀x cs t,Blk w x cs t→w'.heap[x]? =w.heap[x]? :=fun x cs t hb=>hk x (hb.ne_gmap h.bm) hb.lt
 refine ⟨h.ge,(hc _ _ _ h.blk).trans h.blk,h.master.keepAt fun x hx=> ?_,h.mz,h.log.keep hlf,h.deeds.keepAt fun x hx=> ?_,fun x hx=>(h.each x hx).keepB fun y hy=> ?_,h.gm.keep (hk _ h.ge.2.2.2 h.gm.lt),
  fun g hg=>(h.rows g hg).keepAt fun x hx=> ?_,h.sepf,h.sepi,by rw [List.map_append];exact hm,fun y hy=> ?_,fun x hx=> ?_,h.good,h.cnt⟩
 ·obtain ⟨_,_,cur,hb⟩:=h.master.block_lt hx
  exact hc _ _ _ hb
 ·obtain ⟨_,_,cur,hb⟩:=h.deeds.block_lt hx
  exact hc _ _ _ hb
 ·obtain ⟨_,_,cur,t,hb,_⟩:=(h.each x hx).innerLt hy
  exact hc _ _ _ hb
 ·obtain ⟨_,_,cur,hb⟩:=(h.rows g hg).block_lt hx
  exact hc _ _ _ hb
 ·rcases List.mem_append.1 hy with hy|hy
  ·obtain ⟨h1,h2,h3⟩:=h.boxes y hy
   exact ⟨h1,h2,(hc _ _ _ h3).trans h3⟩
  ·rw [List.mem_singleton.1 hy]
   exact ⟨hbB,hg,hb⟩
 ·rcases hx with hx|hx|hx|hx|hx|hx|hx|⟨y,hy,rfl⟩
  ·exact h.sepl x (.inl hx)
  ·exact h.sepl x (.inr (.inl hx))
  ·exact h.sepl x (.inr (.inr (.inl hx)))
  ·exact h.sepl x (.inr (.inr (.inr (.inl hx))))
  ·exact h.sepl x (.inr (.inr (.inr (.inr (.inl hx)))))
  ·exact h.sepl x (.inr (.inr (.inr (.inr (.inr (.inl hx))))))
  ·exact h.sepl x (.inr (.inr (.inr (.inr (.inr (.inr (.inl hx)))))))
  ·rcases List.mem_append.1 hy with hy|hy
   ·exact h.sepl y.2 (.inr (.inr (.inr (.inr (.inr (.inr (.inr ⟨y,hy,rfl⟩)))))))
   ·rw [List.mem_singleton.1 hy];exact hf
end
def VBoxP (B d:Nat) (w:World) (V:VaultR) (g:Nat) (e:Ending) (w':World):Prop:=∃(b:Nat) (bl:List (Nat×Nat)),e= .returned (.pointer (some ⟨b,0,none⟩))∧BoxAt w' b V.m g∧VOnly B d w V w' {V with bl:=bl}∧Turn (fun x=>x=V.mb) w w'
set_option maxHeartbeats 2000000 in
theorem vbox_any (w:World) (B d:Nat) (V:VaultR) (h:VaultAt w B d V) (hB:B≤w.heap.size) (g:Nat) (hg:g≤4096):
  Calls Tryz.prog 53 #[.pointer (some ⟨V.v,0,none⟩),.int .i64 (g:Int)] w (VBoxP B d w V g):=by
 have hs:=h.blk.rule
 unfold vaultCells at hs
 by_cases hy:∃y∈V.bl,y.1=g
 ·obtain ⟨y,hy,rfl⟩:=hy
  have hl:=h.lookB hy
  go_enter Tryz.func53,Tryz.ntmps53
  go_wp2_with fail
  go_ret
  exact ⟨y.2,V.bl,rfl,(h.boxes y hy).2.2,VOnly.refl h,Turn.refl _ _⟩
 ·have hn:∀y∈V.bl,y.1≠g:=fun y h1 h2=>hy ⟨y,h1,h2⟩
  have hl:=h.lookB_no hg hn
  have hu:IntKind.u64.wrap (g:Int)=(g:Int):=by
   simp only [IntKind.wrap,IntKind.bits,IntKind.signed]
   simp
   omega
  clear hy
  go_enter Tryz.func53,Tryz.ntmps53
  go_wp2_with fail
  have L0:∀W,KeepAt (fun x=>x=V.v) w.drew W→∀i,W.cell? ⟨V.v,i,none⟩=(vaultCells V)[i]? :=fun W hW i=>(World.cell?_of_block (a:=⟨V.v,i,none⟩) (hW.2 V.v rfl)).trans (h.blk.rule i)
  unfold vaultCells at L0
  clear hs hl
  refine wp_region_treeR true (KeepAt (fun x=>x=V.v)) (KeepAt.refl _) (fun _ _ _ h1 h2=>KeepAt.trans h1 h2) (.step 0 (.step 1 (.step 2 (.step 3 (.step 4 (.step 5 (.step 6 (.step 7 (.step 8 (.step 9 (.step 10 (.step 11 (.step 12 .done))))))))))))) (by kernel_rfl) (by kernel_rfl) (fun c a d v w h=>by cases d<;>exact h) ?_
  repeat (first|(refine tree_skip rfl (by rfl) ?_;simp only [Act.put,List.setIfInBounds_toArray,List.set])|(refine tree_quiet (v:= ?_) rfl rfl (by rfl) ?_ ?_;rotate_left;(intro W hW;go_simp);(try with_reducible rfl);simp only [Act.put,List.setIfInBounds_toArray,List.set]))
  refine tree_loud rfl rfl (by rfl) (fun K hK=> ?_)
  go_wp2_with fail
  refine (snew_any V.ma V.m.length V.mc V.m g w.drew h.master.drew.row rfl (by have:=h.mz;omega) (by omega)).mono ?_
  rintro e w1 ⟨b,rfl,hbw,hbx,hb1⟩
  have hb1':Below w.heap.size w w1:=⟨hb1.os,hb1.tape,hb1.output,hb1.size,hb1.block⟩
  have h1:=h.old hb1'
  go_wp2_with fail
  refine hK _ _ (KeepAt.below hb1 fun x hx=>by subst hx;exact h.blk.lt) ?_
  clear hK K
  have hno:keyV g∉(V.bl.map entB).map Prod.fst:=VaultAt.noBox hn
  have hlen:V.bl.length<maxLen:=by have:=h.boxN;unfold maxLen;omega
  obtain ⟨w2,hrun,hm2,ht2⟩:=h1.bm.add keyIv Tryz.underlying91 (by rw [List.length_map];exact hlen) (keyOfV (n:=g) (by omega)) (Rb_mk b) hno
  have hbx2:BoxAt w2 b V.m g:=(ht2.grown.block b hbx.lt (by simpa using hbx.ne_gmap h1.bm)).trans hbx
  have h2:=h1.boxed ht2 hg hm2 hbx2 (Nat.le_trans hB hbw) (fun hl=>by have:=(h.log.lt hl).2;simp at hbw;omega)
  have tn:Turn (fun x=>x=V.mb) w w2:=(Turn.of_below (F:=fun x=>x=V.mb) hb1').trans (Turn.mapTurned (F:=fun x=>x=V.mb) ht2 rfl) fun _ h=> .inl h
  have hl2:=h2.lookB (y:=(g,b)) (by simp)
  have hs2:=h2.blk.rule
  unfold vaultCells at hs2
  refine tree_store rfl rfl (by rfl) (fun K hK=> ?_)
  go_wp2_with fail
  refine tree_done ?_
  go_wp2_with fail
  go_ret
  refine ⟨b,_,rfl,hbx2,⟨tn.mono fun x hx=> .inr (.inr (.inr (.inr (.inr (.inl hx))))),h2,fun x hx=> ?_,rfl,rfl,rfl,rfl⟩,tn⟩
  rcases hx with hx|hx|hx|hx|hx|hx|hx|⟨y,hy,rfl⟩
  ·exact .inl (.inl hx)
  ·exact .inl (.inr (.inl hx))
  ·exact .inl (.inr (.inr (.inl hx)))
  ·exact .inl (.inr (.inr (.inr (.inl hx))))
  ·exact .inl (.inr (.inr (.inr (.inr (.inl hx)))))
  ·exact .inl (.inr (.inr (.inr (.inr (.inr (.inl hx))))))
  ·exact .inl (.inr (.inr (.inr (.inr (.inr (.inr (.inl hx)))))))
  ·rcases List.mem_append.1 hy with hy|hy
   ·exact .inl (.inr (.inr (.inr (.inr (.inr (.inr (.inr ⟨y,hy,rfl⟩)))))))
   ·rw [List.mem_singleton.1 hy]
    exact .inr hbw
set_option maxHeartbeats 2000000 in
theorem vfollows_any (w:World) (B d:Nat) (V:VaultR) (h:VaultAt w B d V) (X:Nat) (x:DeedP) (hx:DeedH) (hX:Blk w X (deedCells x hx).toArray 40):
  Calls Tryz.prog 52 #[.pointer (some ⟨V.v,0,none⟩),.pointer (some ⟨X,0,none⟩)] w fun e w'=>e= .returned (.bool (followsD V.l x))∧Below w.heap.size w w':=by
 have k0:w.cell? ⟨X,0,none⟩=some (.int .i8 x.kind):=hX.cell rfl
 have L0:∀W,Old w.drew W→∀i,W.cell? ⟨V.v,i,none⟩=(vaultCells V)[i]? :=fun W hW i=>(h.blk.drew.old hW).rule i
 have L1:∀W,Old w.drew W→W.cell? ⟨X,1,none⟩=some (.int .i64 x.game):=fun W hW=>(hX.drew.old hW).cell rfl
 have L2:∀W,Old w.drew W→∀ty,(Builtin.len_ #[90] ty #[.map (some V.mg)]).run Tryz.prog W= .ok (.int .i64 (gamesN V.l:Int)) W:=fun W hW ty=>(h.old (w':=W) ⟨hW.os,hW.tape,hW.output,hW.size,hW.block⟩).size ty
 unfold vaultCells at L0
 unfold followsD
 by_cases hk:x.kind=1
 ·rw [if_pos hk]
  rw [hk] at k0
  go_enter Tryz.func52,Tryz.ntmps52
  go_wp2_with fail
  refine wp_region_old (0::1::2::3::4::5::6::7::8::9::10::[]) (by kernel_rfl) (by kernel_rfl) (fun c a d v w h=>by cases d<;>exact h) ?_
  repeat (first|(refine lex_skip rfl (by rfl) ?_;simp only [Act.put,List.setIfInBounds_toArray,List.set])|(refine lex_quiet (v:= ?_) rfl rfl (by rfl) ?_ ?_;rotate_left;(intro W hW;go_simp);(try with_reducible rfl);simp only [Act.put,List.setIfInBounds_toArray,List.set]))
  refine lex_nil ?_
  go_wp2_with fail
  go_ret
  exact ⟨by first|rfl|(congr 2),(Below.refl _ _).drew⟩
 ·rw [if_neg hk]
  by_cases h0:0≤x.game
  ·have t0:decide (0≤x.game)=true:=decide_eq_true h0
   rw [t0,Bool.true_and]
   go_enter Tryz.func52,Tryz.ntmps52
   go_wp2_with fail
   refine wp_region_g (0::1::2::3::4::5::6::7::8::9::10::11::12::13::14::15::16::17::[]) (by kernel_rfl) (by kernel_rfl) (fun c a d v w h=>by cases d<;>exact h) ?_
   repeat (first|(refine gex_skip rfl (by rfl) ?_;simp only [Act.put,List.setIfInBounds_toArray,List.set])|(refine gex_quiet (v:= ?_) rfl rfl (by rfl) ?_ ?_;rotate_left;(intro W hW;go_simp);(try with_reducible rfl);simp only [Act.put,List.setIfInBounds_toArray,List.set]))
   refine gex_nil ?_
   go_wp2_with fail
   go_ret
   exact ⟨rfl,(Below.refl _ _).drew⟩
  ·have t0:decide (0≤x.game)=false:=decide_eq_false h0
   rw [t0,Bool.false_and]
   go_enter Tryz.func52,Tryz.ntmps52
   go_wp2_with fail
   refine wp_region_g (0::1::2::3::4::5::6::7::8::9::10::11::12::13::14::15::16::17::[]) (by kernel_rfl) (by kernel_rfl) (fun c a d v w h=>by cases d<;>exact h) ?_
   repeat (first|(refine gex_skip rfl (by rfl) ?_;simp only [Act.put,List.setIfInBounds_toArray,List.set])|(refine gex_quiet (v:= ?_) rfl rfl (by rfl) ?_ ?_;rotate_left;(intro W hW;go_simp);(try with_reducible rfl);simp only [Act.put,List.setIfInBounds_toArray,List.set]))
   refine gex_nil ?_
   go_wp2_with fail
   go_ret
   exact ⟨rfl,(Below.refl _ _).drew⟩
end
end Go.Proofs.YtioigihakjlopaaGreat

/- Texts put together and cut to what is used: VaultM, Vault, VaultK. -/
import Derived.Test.YtioigihakjlopaaGreatVB30
import Derived.DeepKeys4
namespace Go.Proofs.YtioigihakjlopaaGreat
set_option linter.unusedVariables false
set_option linter.unusedSimpArgs false
section
open Go.RowKit Go.Maps
def encS (b n c:Nat):DU:= .agg [.lit (.int .i64 (b:Int)),.lit (.int .i64 (n:Int)),.lit (.int .i64 (c:Int))]
def Rs (v:Value):Option (DU×List MemPlace):=match v with
 | .slice (some ⟨b,0,none⟩) n c=>some (encS b n c,[])
 | .slice none 0 0=>some (.agg [],[])
 |_=>none
def Rb (v:Value):Option (DU×List MemPlace):=match v with
 | .pointer (some ⟨b,0,none⟩)=>some (.lit (.int .i64 (b:Int)),[])
 | .pointer none=>some (.agg [],[])
 |_=>none
theorem Rs_mk (b n c:Nat):Rs (.slice (some ⟨b,0,none⟩) n c)=some (encS b n c,[]):=rfl
theorem Rs_inv {v:Value} {b n c:Nat} {ps:List MemPlace} (h:Rs v=some (encS b n c,ps)):v= .slice (some ⟨b,0,none⟩) n c:=by
 unfold Rs at h
 split at h
 ·simp only [encS,Option.some.injEq,Prod.mk.injEq,DataW.agg.injEq,List.cons.injEq,DataW.lit.injEq,Lit.int.injEq,true_and,and_true,Int.natCast_inj] at h
  obtain ⟨⟨rfl,rfl,rfl⟩,-⟩:=h
  rfl
 ·simp [encS] at h
 ·cases h
theorem Rb_mk (b:Nat):Rb (.pointer (some ⟨b,0,none⟩))=some (.lit (.int .i64 (b:Int)),[]):=rfl
theorem Rb_inv {v:Value} {b:Nat} {ps:List MemPlace} (h:Rb v=some (.lit (.int .i64 (b:Int)),ps)):v= .pointer (some ⟨b,0,none⟩):=by
 unfold Rb at h
 split at h
 ·simp only [Option.some.injEq,Prod.mk.injEq,DataW.lit.injEq,Lit.int.injEq,true_and,Int.natCast_inj] at h
  rw [h.1]
 ·simp at h
 ·cases h
theorem zeroRow (w:World):(zeroValue 34).run Tryz.prog w= .ok (.slice none 0 0) w:=by kernel_rfl
theorem zeroBox (w:World):(zeroValue 102).run Tryz.prog w= .ok (.pointer none) w:=by kernel_rfl
theorem keyIv:Keyed Tryz.prog 3:=int_keyed Tryz.underlying3
def keyV (n:Nat):Lit:= .int .i64 (n:Int)
theorem keyOfV {n:Nat} (h:n≤1000000000000000):keyOf Tryz.prog 3 (.int .i64 (n:Int))=some (keyV n):=keyOf_int_mk Tryz.underlying3 (wf64_small h)
theorem keyV_inj {a b:Nat}:keyV a=keyV b↔a=b:=by simp [keyV];omega
def atB (a:Option Addr) (x:Nat):Prop:=∃ad,a=some ad∧x=ad.block
def innerI (h:DeedH) (x:Nat):Prop:=atB h.d0.a x∨atB h.d1.a x∨atB h.dr.a x∨atB h.act.ids.a x
def inner (h:DeedH) (x:Nat):Prop:=innerI h x∨atB h.act.pairs.a x
section
variable {w w':World} {B:Nat} {p:DeedP} {h:DeedH}
theorem OwnInts.keepB {s:Sl} {l:List Int} (h:OwnInts w B s l) (hk:∀x,atB s.a x→w'.heap[x]? =w.heap[x]?):OwnInts w' B s l:=by
 have h1:=h.1.keepAt (w':=w') fun x hx=>hk _ ⟨x,hx,rfl⟩
 exact ⟨h1,h1.row,h.2.2⟩
theorem OwnPairs.keepB {s:Sl} {l:List PairL} (h:OwnPairs w B s l) (hk:∀x,atB s.a x→w'.heap[x]? =w.heap[x]?):OwnPairs w' B s l:=by
 have h1:=h.1.keepAt (w':=w') fun x hx=>hk _ ⟨x,hx,rfl⟩
 exact ⟨h1,h1.row,h.2.2⟩
theorem DeedOwn.keepB (a:DeedOwn w B p h) (hk:∀x,inner h x→w'.heap[x]? =w.heap[x]?):DeedOwn w' B p h:=
 ⟨a.kind,a.game,a.table,a.fmt,a.n0,a.n1,a.d0.keepB fun x hx=>hk x (.inl (.inl hx)),a.d1.keepB fun x hx=>hk x (.inl (.inr (.inl hx))),a.dr.keepB fun x hx=>hk x (.inl (.inr (.inr (.inl hx)))),
  ⟨a.act.op,a.act.side,a.act.place,a.act.target,a.act.ids.keepB fun x hx=>hk x (.inl (.inr (.inr (.inr hx)))),a.act.pairs.keepB fun x hx=>hk x (.inr hx)⟩⟩
theorem DeedOwn.innerLt (a:DeedOwn w B p h) {x:Nat} (hx:inner h x):B≤x∧x<w.heap.size∧∃cur t,Blk w x cur t∧(t=3∨t=157):=by
 have go:∀{s:Sl} {l:List Int},OwnInts w B s l→atB s.a x→B≤x∧x<w.heap.size∧∃cur t,Blk w x cur t∧(t=3∨t=157):=fun ho ⟨ad,ha,e⟩=>by
  obtain ⟨h1,h2,cur,h3⟩:=ho.1.block_lt ha
  subst e
  exact ⟨h1,h2,cur,_,h3,.inl rfl⟩
 rcases hx with (hx|hx|hx|hx)|⟨ad,ha,e⟩
 ·exact go a.d0 hx
 ·exact go a.d1 hx
 ·exact go a.dr hx
 ·exact go a.act.ids hx
 ·obtain ⟨h1,h2,cur,h3⟩:=a.act.pairs.1.block_lt ha
  subst e
  exact ⟨h1,h2,cur,_,h3,.inr rfl⟩
end
structure VaultR where
 v:Nat
 ma:Option Addr
 mc:Nat
 m:List UInt8
 R:LogR
 da:Option Addr
 dc:Nat
 ds:List (DeedP×DeedH)
 mg:Nat
 f:Nat→Nat
 fc:Nat→Nat
 mb:Nat
 bl:List (Nat×Nat)
 down:Bool
def VaultR.l (V:VaultR):List DeedP:=V.ds.map Prod.fst
def vaultCells (V:VaultR):Array Value:= #[.slice V.ma V.m.length V.mc,.pointer (some ⟨V.R.l,0,none⟩),.slice V.da V.ds.length V.dc,.map (some V.mg),.map (some V.mb),.bool V.down]
def dcells (ds:List (DeedP×DeedH)):List Value:=ds.flatMap fun x=>deedCells x.1 x.2
def placesV (l:List DeedP) (g:Nat):List Value:=(placesOf l (g:Int)).map fun (j:Nat)=>Value.int .i64 (j:Int)
def entsG (l:List DeedP) (f fc:Nat→Nat):List (Lit×DU):=(List.range (gamesN l)).map fun g=>(keyV g,encS (f g) (placesOf l (g:Int)).length (fc g))
def entB (y:Nat×Nat):Lit×DU:=(keyV y.1,.lit (.int .i64 (y.2:Int)))
def vrest (V:VaultR) (x:Nat):Prop:=x=V.v∨atB V.ma x∨atB V.da x∨(∃y∈V.ds,inner y.2 x)∨x=V.mg∨x=V.mb∨(∃g,g<gamesN V.l∧x=V.f g)∨∃y∈V.bl,x=y.2
structure VaultAt (w:World) (B d:Nat) (V:VaultR):Prop where
 ge:B≤V.v∧B≤V.mg∧B≤V.mb∧V.mg≠V.mb
 blk:Blk w V.v (vaultCells V) 93
 master:Own w B 5 1 V.ma V.m.length V.mc (V.m.map bv)
 mz:V.m.length≤1000000
 log:LogAt w B d V.R
 deeds:Own w B 40 15 V.da V.ds.length V.dc (dcells V.ds)
 each:∀x∈V.ds,DeedOwn w B x.1 x.2
 gm:GMap w Tryz.prog 3 Rs V.mg (entsG V.l V.f V.fc)
 rows:∀g,g<gamesN V.l→Own w B 3 1 (some ⟨V.f g,0,none⟩) (placesOf V.l (g:Int)).length (V.fc g) (placesV V.l g)
 sepf:∀g g',g<gamesN V.l→g'<gamesN V.l→V.f g=V.f g'→g=g'
 sepi:∀g,g<gamesN V.l→∀x∈V.ds,¬innerI x.2 (V.f g)
 bm:GMap w Tryz.prog 3 Rb V.mb (V.bl.map entB)
 boxes:∀y∈V.bl,B≤y.2∧y.1≤4096∧BoxAt w y.2 V.m y.1
 sepl:∀x,vrest V x→¬lfoot V.R x
 good:GoodD V.l
 cnt:V.ds.length≤V.R.ls.length
section
variable {w w' w'':World} {B d:Nat} {V V' V'':VaultR} {r r' r'':DiskR}
theorem VaultR.len (V:VaultR):V.l.length=V.ds.length:=List.length_map ..
theorem VaultAt.small (h:VaultAt w B d V):V.ds.length≤4096∧gamesN V.l≤4096∧∀g,(placesOf V.l g).length≤4096:=by
 have h1:=h.cnt
 have h2:=h.log.cnt
 have h3:=gamesN_le V.l
 rw [V.len] at h3
 refine ⟨by omega,by omega,fun g=> ?_⟩
 have h4:=ofG_le V.l g
 rw [V.len] at h4
 rw [placesOf_len]
 omega
theorem VaultAt.keep (h:VaultAt w B d V) (hk:∀x,lfoot V.R x∨vrest V x→w'.heap[x]? =w.heap[x]?):VaultAt w' B d V:=
 ⟨h.ge,(hk _ (.inr (.inl rfl))).trans h.blk,h.master.keepAt fun x hx=>hk _ (.inr (.inr (.inl ⟨x,hx,rfl⟩))),h.mz,h.log.keep fun x hx=>hk _ (.inl hx),
  h.deeds.keepAt fun x hx=>hk _ (.inr (.inr (.inr (.inl ⟨x,hx,rfl⟩)))),fun x hx=>(h.each x hx).keepB fun y hy=>hk _ (.inr (.inr (.inr (.inr (.inl ⟨x,hx,hy⟩))))),
  h.gm.keep (hk _ (.inr (.inr (.inr (.inr (.inr (.inl rfl))))))),fun g hg=>(h.rows g hg).keepAt fun x hx=>hk _ (.inr (.inr (.inr (.inr (.inr (.inr (.inr (.inl ⟨g,hg,by cases hx;rfl⟩)))))))),
  h.sepf,h.sepi,h.bm.keep (hk _ (.inr (.inr (.inr (.inr (.inr (.inr (.inl rfl)))))))),fun y hy=>⟨(h.boxes y hy).1,(h.boxes y hy).2.1,(hk _ (.inr (.inr (.inr (.inr (.inr (.inr (.inr (.inr ⟨y,hy,rfl⟩))))))))).trans (h.boxes y hy).2.2⟩,h.sepl,h.good,h.cnt⟩
theorem VaultAt.ltR (h:VaultAt w B d V) {x:Nat} (hx:vrest V x):B≤x∧x<w.heap.size:=by
 rcases hx with rfl|⟨ad,ha,rfl⟩|⟨ad,ha,rfl⟩|⟨y,hy,hi⟩|rfl|rfl|⟨g,hg,rfl⟩|⟨y,hy,rfl⟩
 ·exact ⟨h.ge.1,h.blk.lt⟩
 ·exact ⟨(h.master.block_lt ha).1,(h.master.block_lt ha).2.1⟩
 ·exact ⟨(h.deeds.block_lt ha).1,(h.deeds.block_lt ha).2.1⟩
 ·exact ⟨((h.each y hy).innerLt hi).1,((h.each y hy).innerLt hi).2.1⟩
 ·exact ⟨h.ge.2.1,h.gm.lt⟩
 ·exact ⟨h.ge.2.2.1,h.bm.lt⟩
 ·exact ⟨((h.rows g hg).block_lt rfl).1,((h.rows g hg).block_lt rfl).2.1⟩
 ·exact ⟨(h.boxes y hy).1,(h.boxes y hy).2.2.lt⟩
theorem VaultAt.lt (h:VaultAt w B d V) {x:Nat} (hx:lfoot V.R x∨vrest V x):B≤x∧x<w.heap.size:=hx.elim h.log.lt h.ltR
theorem VaultAt.old (h:VaultAt w B d V) (hb:Below w.heap.size w w'):VaultAt w' B d V:=h.keep fun x hx=>hb.block x (h.lt hx).2
structure VL (w:World) (B:Nat) (r:DiskR) (V:VaultR):Prop where
 disk:DiskAt w B r
 vault:VaultAt w B r.d V
 apart:∀x,lfoot V.R x∨vrest V x→¬foot r x
def afoot (r:DiskR) (V:VaultR) (x:Nat):Prop:=foot r x∨lfoot V.R x∨vrest V x
theorem VL.keep (h:VL w B r V) (hk:∀x,afoot r V x→w'.heap[x]? =w.heap[x]?):VL w' B r V:=⟨h.disk.keep fun x hx=>hk x (.inl hx),h.vault.keep fun x hx=>hk x (.inr hx),h.apart⟩
theorem VL.lt (h:VL w B r V) {x:Nat} (hx:afoot r V x):B≤x∧x<w.heap.size:=hx.elim h.disk.lt h.vault.lt
theorem VL.old (h:VL w B r V) (hb:Below w.heap.size w w'):VL w' B r V:=h.keep fun x hx=>hb.block x (h.lt hx).2
theorem VL.dl (h:VL w B r V):DL w B r V.R:=⟨h.disk,h.vault.log,fun x hx=>h.apart x (.inl hx)⟩
structure VStep (B:Nat) (w:World) (r:DiskR) (V:VaultR) (w':World) (r':DiskR) (V':VaultR):Prop where
 turn:Turn (afoot r V) w w'
 at':VL w' B r' V'
 foot':∀x,afoot r' V' x→afoot r V x∨w.heap.size≤x
 d:r'.d=r.d
 v:V'.v=V.v
 m:V'.m=V.m
theorem VStep.trans (h:VStep B w r V w' r' V') (h':VStep B w' r' V' w'' r'' V''):VStep B w r V w'' r'' V'':=
 ⟨h.turn.trans h'.turn h.foot',h'.at',fun x hx=>by
  rcases h'.foot' x hx with h1|h1
  ·exact h.foot' x h1
  ·exact .inr (Nat.le_trans h.turn.size h1),h'.d.trans h.d,h'.v.trans h.v,h'.m.trans h.m⟩
theorem VStep.below (h:VStep B w r V w' r' V') (hr:VL w B r V) (hB:B≤w.heap.size):Below B w w':=h.turn.below (fun _ hx=>(hr.lt hx).1) hB
theorem VStep.old (h:VL w B r V) (hb:Below w.heap.size w w'):VStep B w r V w' r V:=⟨Turn.of_below hb,h.old hb,fun _ hx=> .inl hx,rfl,rfl,rfl⟩
structure VOnly (B d:Nat) (w:World) (V:VaultR) (w':World) (V':VaultR):Prop where
 turn:Turn (vrest V) w w'
 at':VaultAt w' B d V'
 foot':∀x,vrest V' x→vrest V x∨w.heap.size≤x
 R:V'.R=V.R
 v:V'.v=V.v
 m:V'.m=V.m
 down:V'.down=V.down
theorem VOnly.refl (h:VaultAt w B d V):VOnly B d w V w V:=⟨Turn.refl _ _,h,fun _ hx=> .inl hx,rfl,rfl,rfl,rfl⟩
theorem VOnly.old (h:VaultAt w B d V) (hb:Below w.heap.size w w'):VOnly B d w V w' V:=⟨Turn.of_below hb,h.old hb,fun _ hx=> .inl hx,rfl,rfl,rfl,rfl⟩
theorem VOnly.trans (h:VOnly B d w V w' V') (h':VOnly B d w' V' w'' V''):VOnly B d w V w'' V'':=
 ⟨h.turn.trans h'.turn h.foot',h'.at',fun x hx=>by
  rcases h'.foot' x hx with h1|h1
  ·exact h.foot' x h1
  ·exact .inr (Nat.le_trans h.turn.size h1),h'.R.trans h.R,h'.v.trans h.v,h'.m.trans h.m,h'.down.trans h.down⟩
theorem VOnly.step (hs:VOnly B r.d w V w' V') (h:VL w B r V):VStep B w r V w' r V':=by
 refine ⟨hs.turn.mono fun x hx=> .inr (.inr hx),⟨h.disk.turn hs.turn fun x hx hF=>h.apart x (.inr hF) hx,hs.at',fun x hx hf=> ?_⟩,fun x hx=> ?_,rfl,hs.v,hs.m⟩
 ·rcases hx with hx|hx
  ·exact h.apart x (.inl (by rw [hs.R] at hx;exact hx)) hf
  ·rcases hs.foot' x hx with h1|h1
   ·exact h.apart x (.inr h1) hf
   ·have:=(h.disk.lt hf).2;omega
 ·rcases hx with hx|hx|hx
  ·exact .inl (.inl hx)
  ·exact .inl (.inr (.inl (by rw [hs.R] at hx;exact hx)))
  ·exact (hs.foot' x hx).imp (fun h=> .inr (.inr h)) id
theorem LStep.vault (hs:LStep B w r V.R w' r' V'.R) (h:VL w B r V) (hV:V'={V with R:=V'.R}) (hc:V.ds.length≤V'.R.ls.length):VStep B w r V w' r' V':=by
 have hvr:∀x,vrest V' x↔vrest V x:=fun x=>by rw [hV];rfl
 have hkeep:∀x,vrest V x→w'.heap[x]? =w.heap[x]? :=fun x hx=>hs.turn.block x (h.vault.ltR hx).2 fun hF=>hF.elim (fun hf=>h.apart x (.inr hx) hf) (h.vault.sepl x hx)
 have hnew:∀x,vrest V x→¬(foot r' x∨lfoot V'.R x):=fun x hx hf=>by
  rcases hs.foot' x hf with h1|h1
  ·exact h1.elim (fun hf=>h.apart x (.inr hx) hf) (h.vault.sepl x hx)
  ·have:=(h.vault.ltR hx).2;omega
 have hat:VaultAt w' B r'.d V':=by
  rw [hV]
  refine ⟨h.vault.ge,?_,h.vault.master.keepAt fun x hx=>hkeep _ (.inr (.inl ⟨x,hx,rfl⟩)),h.vault.mz,hs.at'.log,h.vault.deeds.keepAt fun x hx=>hkeep _ (.inr (.inr (.inl ⟨x,hx,rfl⟩))),
   fun x hx=>(h.vault.each x hx).keepB fun y hy=>hkeep _ (.inr (.inr (.inr (.inl ⟨x,hx,hy⟩)))),h.vault.gm.keep (hkeep _ (.inr (.inr (.inr (.inr (.inl rfl)))))),
   fun g hg=>(h.vault.rows g hg).keepAt fun x hx=>hkeep _ (.inr (.inr (.inr (.inr (.inr (.inr (.inl ⟨g,hg,by cases hx;rfl⟩))))))),h.vault.sepf,h.vault.sepi,h.vault.bm.keep (hkeep _ (.inr (.inr (.inr (.inr (.inr (.inl rfl))))))),
   fun y hy=>⟨(h.vault.boxes y hy).1,(h.vault.boxes y hy).2.1,(hkeep _ (.inr (.inr (.inr (.inr (.inr (.inr (.inr ⟨y,hy,rfl⟩)))))))).trans (h.vault.boxes y hy).2.2⟩,fun x hx=>fun hl=>hnew x hx (.inr hl),h.vault.good,hc⟩
  have e:vaultCells {V with R:=V'.R}=vaultCells V:=by unfold vaultCells;dsimp only;rw [hs.l]
  rw [e]
  exact (hkeep _ (.inl rfl)).trans h.vault.blk
 refine ⟨hs.turn.mono fun x hx=>hx.elim .inl fun h=> .inr (.inl h),⟨hs.at'.disk,hat,fun x hx hf=> ?_⟩,fun x hx=> ?_,hs.d,by rw [hV],by rw [hV]⟩
 ·rcases hx with hx|hx
  ·exact hs.at'.apart x hx hf
  ·exact hnew x ((hvr x).1 hx) (.inl hf)
 ·rcases hx with hx|hx|hx
  ·exact (hs.foot' x (.inl hx)).imp (fun h=>h.elim .inl fun h=> .inr (.inl h)) id
  ·exact (hs.foot' x (.inr hx)).imp (fun h=>h.elim .inl fun h=> .inr (.inl h)) id
  ·exact .inl (.inr (.inr ((hvr x).1 hx)))
theorem DStep.vault (hs:DStep B w r w' r') (h:VL w B r V):VStep B w r V w' r' V:=LStep.vault (DStep.log hs h.dl) h rfl h.vault.cnt
end
section
variable {w:World} {B d:Nat} {V:VaultR}
theorem entsG_mem {l:List DeedP} {f fc:Nat→Nat} {g:Nat} (hg:g<gamesN l):(keyV g,encS (f g) (placesOf l (g:Int)).length (fc g))∈entsG l f fc:=List.mem_map.2 ⟨g,List.mem_range.2 hg,rfl⟩
theorem entsG_no {l:List DeedP} {f fc:Nat→Nat} {g:Nat} (hg:gamesN l≤g):keyV g∉(entsG l f fc).map Prod.fst:=fun h=>by
 unfold entsG at h
 rw [List.map_map] at h
 obtain ⟨k,hk,e⟩:=List.mem_map.1 h
 have:=List.mem_range.1 hk
 have e2:keyV k=keyV g:=e
 rw [keyV_inj] at e2
 omega
theorem Rs_zero {v:Value} {ps:List MemPlace} (h:Rs v=some (.agg [],ps)):v= .slice none 0 0:=by
 unfold Rs at h
 split at h
 ·simp [encS] at h
 ·rfl
 ·cases h
theorem Rb_zero {v:Value} {ps:List MemPlace} (h:Rb v=some (.agg [],ps)):v= .pointer none:=by
 unfold Rb at h
 split at h
 ·simp at h
 ·rfl
 ·cases h
theorem entsG_len (l:List DeedP) (f fc:Nat→Nat):(entsG l f fc).length=gamesN l:=by simp [entsG]
theorem VaultAt.size (h:VaultAt w B d V) (ty:TypeId):(Builtin.len_ #[90] ty #[.map (some V.mg)]).run Tryz.prog w= .ok (.int .i64 (gamesN V.l:Int)) w:=by
 rw [h.gm.len Tryz.underlying90 ty,entsG_len]
theorem VaultAt.lookB (h:VaultAt w B d V) {y:Nat×Nat} (hy:y∈V.bl):(Instr.lookup 91 (.map (some V.mb)) (.int .i64 (y.1:Int)) false).run Tryz.prog w= .ok (.pointer (some ⟨y.2,0,none⟩)) w:=by
 have hk:=keyOfV (n:=y.1) (by have:=(h.boxes y hy).2.1;omega)
 obtain ⟨v,ps,hr,hv⟩:=h.bm.look keyIv Tryz.underlying91 (zeroBox w) (show Rb (.pointer none)=some (.agg [],[]) from rfl) hk (List.mem_map.2 ⟨y,hy,rfl⟩)
 rw [hr,Rb_inv hv]
theorem VaultAt.noBox {g:Nat} (hn:∀y∈V.bl,y.1≠g):keyV g∉(V.bl.map entB).map Prod.fst:=fun hm=>by
 rw [List.map_map] at hm
 obtain ⟨y,hy,e⟩:=List.mem_map.1 hm
 exact hn y hy (keyV_inj.1 e)
theorem VaultAt.lookB_no (h:VaultAt w B d V) {g:Nat} (hg:g≤4096) (hn:∀y∈V.bl,y.1≠g):(Instr.lookup 91 (.map (some V.mb)) (.int .i64 (g:Int)) false).run Tryz.prog w= .ok (.pointer none) w:=by
 have hk:=keyOfV (n:=g) (by omega)
 obtain ⟨v,ps,hr,hv⟩:=h.bm.look_no keyIv Tryz.underlying91 (zeroBox w) (show Rb (.pointer none)=some (.agg [],[]) from rfl) hk (VaultAt.noBox hn)
 rw [hr,Rb_zero hv]
end
end
section
open Go.RowKit Go.Maps
set_option maxRecDepth 20000
section
variable {w w':World} {B d:Nat} {V:VaultR}
theorem GMap.obj {P:Program} {k:TypeId} {R:Value→Option (DU×List MemPlace)} {M:Nat} {l:List (Lit×DU)} (h:GMap w P k R M l):∃es clock,w.heap[M]? =some (.map es clock):=by
 obtain ⟨D,⟨es,clock,hb,_⟩,_⟩:=h.ex
 exact ⟨es,clock,hb⟩
theorem Blk.ne_gmap {g:Nat} {cs:Array Value} {ty:TypeId} (hb:Blk w g cs ty) {P:Program} {k:TypeId} {R:Value→Option (DU×List MemPlace)} {M:Nat} {l:List (Lit×DU)} (h:GMap w P k R M l):g≠M:=fun e=>by
 obtain ⟨es,clock,hm⟩:=h.obj
 have h1:w.heap[g]? =_:=hb
 rw [e,hm] at h1
 cases h1
theorem Turn.mapTurned {F:Nat→Prop} {M:Nat} (h:w.mapTurned w' M) (hF:F M):Turn F w w':=Turn.of_grown h.grown (fun k e=>by cases e;exact hF)
theorem Turn.off {F:Nat→Prop} {a b:World} (h:Turn F a.drew b):Turn F a b:=⟨h.os,h.tape,h.output,h.size,h.block⟩
theorem nodup_lt:∀(n:Nat) (l:List Nat),l.Nodup→(∀x∈l,x<n)→l.length≤n
 |0,l,_,h=>by
  cases l with
  |nil=>exact Nat.le_refl _
  |cons x r=>exact absurd (h x (by simp)) (Nat.not_lt_zero _)
 |n+1,l,hn,h=>by
  by_cases hm:n∈l
  ·have h1:=nodup_lt n (l.erase n) (hn.erase n) (fun x hx=>by
    have h2:=(hn.mem_erase_iff).1 hx
    have:=h x h2.2
    have:=h2.1
    omega)
   rw [List.length_erase_of_mem hm] at h1
   omega
  ·have h1:=nodup_lt n l hn (fun x hx=>by
    have h2:=h x hx
    have:x≠n:=fun e=>hm (e▸hx)
    omega)
   omega
theorem VaultAt.boxN (h:VaultAt w B d V):V.bl.length≤4097:=by
 have h1:=h.bm.nd
 rw [List.map_map] at h1
 have h2:(V.bl.map Prod.fst).Nodup:=by
  have h3:((V.bl.map Prod.fst).map keyV).Nodup:=by rw [List.map_map];exact h1
  exact List.Pairwise.of_map keyV (fun a b hab e=>hab (by rw [e])) h3
 have:=nodup_lt 4097 (V.bl.map Prod.fst) h2 (fun x hx=>by
  obtain ⟨y,hy,rfl⟩:=List.mem_map.1 hx
  have:=(h.boxes y hy).2.1
  omega)
 rwa [List.length_map] at this
theorem VaultAt.boxed (h:VaultAt w B d V) (ht:w.mapTurned w' V.mb) {g b:Nat} (hg:g≤4096) (hm:GMap w' Tryz.prog 3 Rb V.mb (V.bl.map entB++ [entB (g,b)])) (hb:BoxAt w' b V.m g) (hbB:B≤b) (hf:¬lfoot V.R b):VaultAt w' B d {V with bl:=V.bl++ [(g,b)]}:=by
 have hk:∀x,x≠V.mb→x<w.heap.size→w'.heap[x]? =w.heap[x]? :=fun x hne hlt=>ht.grown.block x hlt (by simpa using hne)
 have hlf:∀x,lfoot V.R x→w'.heap[x]? =w.heap[x]? :=fun x hx=>hk x (fun e=>h.sepl V.mb (.inr (.inr (.inr (.inr (.inr (.inl rfl)))))) (e▸hx)) (h.log.lt hx).2
 have hc:∀x cs t,Blk w x cs t→w'.heap[x]? =w.heap[x]? :=fun x cs t hb=>hk x (hb.ne_gmap h.bm) hb.lt
 refine ⟨h.ge,(hc _ _ _ h.blk).trans h.blk,h.master.keepAt fun x hx=> ?_,h.mz,h.log.keep hlf,h.deeds.keepAt fun x hx=> ?_,fun x hx=>(h.each x hx).keepB fun y hy=> ?_,h.gm.keep (hk _ h.ge.2.2.2 h.gm.lt),
  fun g hg=>(h.rows g hg).keepAt fun x hx=> ?_,h.sepf,h.sepi,by rw [List.map_append];exact hm,fun y hy=> ?_,fun x hx=> ?_,h.good,h.cnt⟩
 ·obtain ⟨_,_,cur,hb⟩:=h.master.block_lt hx
  exact hc _ _ _ hb
 ·obtain ⟨_,_,cur,hb⟩:=h.deeds.block_lt hx
  exact hc _ _ _ hb
 ·obtain ⟨_,_,cur,t,hb,_⟩:=(h.each x hx).innerLt hy
  exact hc _ _ _ hb
 ·obtain ⟨_,_,cur,hb⟩:=(h.rows g hg).block_lt hx
  exact hc _ _ _ hb
 ·rcases List.mem_append.1 hy with hy|hy
  ·obtain ⟨h1,h2,h3⟩:=h.boxes y hy
   exact ⟨h1,h2,(hc _ _ _ h3).trans h3⟩
  ·rw [List.mem_singleton.1 hy]
   exact ⟨hbB,hg,hb⟩
 ·rcases hx with hx|hx|hx|hx|hx|hx|hx|⟨y,hy,rfl⟩
  ·exact h.sepl x (.inl hx)
  ·exact h.sepl x (.inr (.inl hx))
  ·exact h.sepl x (.inr (.inr (.inl hx)))
  ·exact h.sepl x (.inr (.inr (.inr (.inl hx))))
  ·exact h.sepl x (.inr (.inr (.inr (.inr (.inl hx)))))
  ·exact h.sepl x (.inr (.inr (.inr (.inr (.inr (.inl hx))))))
  ·exact h.sepl x (.inr (.inr (.inr (.inr (.inr (.inr (.inl hx)))))))
  ·rcases List.mem_append.1 hy with hy|hy
   ·exact h.sepl y.2 (.inr (.inr (.inr (.inr (.inr (.inr (.inr ⟨y,hy,rfl⟩)))))))
   ·rw [List.mem_singleton.1 hy];exact hf
end
def VBoxP (B d:Nat) (w:World) (V:VaultR) (g:Nat) (e:Ending) (w':World):Prop:=∃(b:Nat) (bl:List (Nat×Nat)),e= .returned (.pointer (some ⟨b,0,none⟩))∧BoxAt w' b V.m g∧VOnly B d w V w' {V with bl:=bl}∧Turn (fun x=>x=V.mb) w w'
set_option maxHeartbeats 2000000 in
theorem vbox_any (w:World) (B d:Nat) (V:VaultR) (h:VaultAt w B d V) (hB:B≤w.heap.size) (g:Nat) (hg:g≤4096):
  Calls Tryz.prog 53 #[.pointer (some ⟨V.v,0,none⟩),.int .i64 (g:Int)] w (VBoxP B d w V g):=by
 have hs:=h.blk.rule
 unfold vaultCells at hs
 by_cases hy:∃y∈V.bl,y.1=g
 ·obtain ⟨y,hy,rfl⟩:=hy
  have hl:=h.lookB hy
  go_enter Tryz.func53,Tryz.ntmps53
  go_wp2_with fail
  go_ret
  exact ⟨y.2,V.bl,rfl,(h.boxes y hy).2.2,VOnly.refl h,Turn.refl _ _⟩
 ·have hn:∀y∈V.bl,y.1≠g:=fun y h1 h2=>hy ⟨y,h1,h2⟩
  have hl:=h.lookB_no hg hn
  have hu:IntKind.u64.wrap (g:Int)=(g:Int):=by
   simp only [IntKind.wrap,IntKind.bits,IntKind.signed]
   simp
   omega
  clear hy
  go_enter Tryz.func53,Tryz.ntmps53
  go_wp2_with fail
  have L0:∀W,KeepAt (fun x=>x=V.v) w.drew W→∀i,W.cell? ⟨V.v,i,none⟩=(vaultCells V)[i]? :=fun W hW i=>(World.cell?_of_block (a:=⟨V.v,i,none⟩) (hW.2 V.v rfl)).trans (h.blk.rule i)
  unfold vaultCells at L0
  clear hs hl
  refine wp_region_treeR true (KeepAt (fun x=>x=V.v)) (KeepAt.refl _) (fun _ _ _ h1 h2=>KeepAt.trans h1 h2) (.step 0 (.step 1 (.step 2 (.step 3 (.step 4 (.step 5 (.step 6 (.step 7 (.step 8 (.step 9 (.step 10 (.step 11 (.step 12 .done))))))))))))) (by kernel_rfl) (by kernel_rfl) (fun c a d v w h=>by cases d<;>exact h) ?_
  repeat (first|(refine tree_skip rfl (by rfl) ?_;simp only [Act.put,List.setIfInBounds_toArray,List.set])|(refine tree_quiet (v:= ?_) rfl rfl (by rfl) ?_ ?_;rotate_left;(intro W hW;go_simp);(try with_reducible rfl);simp only [Act.put,List.setIfInBounds_toArray,List.set]))
  refine tree_loud rfl rfl (by rfl) (fun K hK=> ?_)
  go_wp2_with fail
  refine (snew_any V.ma V.m.length V.mc V.m g w.drew h.master.drew.row rfl (by have:=h.mz;omega) (by omega)).mono ?_
  rintro e w1 ⟨b,rfl,hbw,hbx,hb1⟩
  have hb1':Below w.heap.size w w1:=⟨hb1.os,hb1.tape,hb1.output,hb1.size,hb1.block⟩
  have h1:=h.old hb1'
  go_wp2_with fail
  refine hK _ _ (KeepAt.below hb1 fun x hx=>by subst hx;exact h.blk.lt) ?_
  clear hK K
  have hno:keyV g∉(V.bl.map entB).map Prod.fst:=VaultAt.noBox hn
  have hlen:V.bl.length<maxLen:=by have:=h.boxN;unfold maxLen;omega
  obtain ⟨w2,hrun,hm2,ht2⟩:=h1.bm.add keyIv Tryz.underlying91 (by rw [List.length_map];exact hlen) (keyOfV (n:=g) (by omega)) (Rb_mk b) hno
  have hbx2:BoxAt w2 b V.m g:=(ht2.grown.block b hbx.lt (by simpa using hbx.ne_gmap h1.bm)).trans hbx
  have h2:=h1.boxed ht2 hg hm2 hbx2 (Nat.le_trans hB hbw) (fun hl=>by have:=(h.log.lt hl).2;simp at hbw;omega)
  have tn:Turn (fun x=>x=V.mb) w w2:=(Turn.of_below (F:=fun x=>x=V.mb) hb1').trans (Turn.mapTurned (F:=fun x=>x=V.mb) ht2 rfl) fun _ h=> .inl h
  have hl2:=h2.lookB (y:=(g,b)) (by simp)
  have hs2:=h2.blk.rule
  unfold vaultCells at hs2
  refine tree_store rfl rfl (by rfl) (fun K hK=> ?_)
  go_wp2_with fail
  refine tree_done ?_
  go_wp2_with fail
  go_ret
  refine ⟨b,_,rfl,hbx2,⟨tn.mono fun x hx=> .inr (.inr (.inr (.inr (.inr (.inl hx))))),h2,fun x hx=> ?_,rfl,rfl,rfl,rfl⟩,tn⟩
  rcases hx with hx|hx|hx|hx|hx|hx|hx|⟨y,hy,rfl⟩
  ·exact .inl (.inl hx)
  ·exact .inl (.inr (.inl hx))
  ·exact .inl (.inr (.inr (.inl hx)))
  ·exact .inl (.inr (.inr (.inr (.inl hx))))
  ·exact .inl (.inr (.inr (.inr (.inr (.inl hx)))))
  ·exact .inl (.inr (.inr (.inr (.inr (.inr (.inl hx))))))
  ·exact .inl (.inr (.inr (.inr (.inr (.inr (.inr (.inl hx)))))))
  ·rcases List.mem_append.1 hy with hy|hy
   ·exact .inl (.inr (.inr (.inr (.inr (.inr (.inr (.inr ⟨y,hy,rfl⟩)))))))
   ·rw [List.mem_singleton.1 hy]
    exact .inr hbw
set_option maxHeartbeats 2000000 in
theorem vfollows_any (w:World) (B d:Nat) (V:VaultR) (h:VaultAt w B d V) (X:Nat) (x:DeedP) (hx:DeedH) (hX:Blk w X (deedCells x hx).toArray 40):
  Calls Tryz.prog 52 #[.pointer (some ⟨V.v,0,none⟩),.pointer (some ⟨X,0,none⟩)] w fun e w'=>e= .returned (.bool (followsD V.l x))∧Below w.heap.size w w':=by
 have k0:w.cell? ⟨X,0,none⟩=some (.int .i8 x.kind):=hX.cell rfl
 have L0:∀W,Old w.drew W→∀i,W.cell? ⟨V.v,i,none⟩=(vaultCells V)[i]? :=fun W hW i=>(h.blk.drew.old hW).rule i
 have L1:∀W,Old w.drew W→W.cell? ⟨X,1,none⟩=some (.int .i64 x.game):=fun W hW=>(hX.drew.old hW).cell rfl
 have L2:∀W,Old w.drew W→∀ty,(Builtin.len_ #[90] ty #[.map (some V.mg)]).run Tryz.prog W= .ok (.int .i64 (gamesN V.l:Int)) W:=fun W hW ty=>(h.old (w':=W) ⟨hW.os,hW.tape,hW.output,hW.size,hW.block⟩).size ty
 unfold vaultCells at L0
 unfold followsD
 by_cases hk:x.kind=1
 ·rw [if_pos hk]
  rw [hk] at k0
  go_enter Tryz.func52,Tryz.ntmps52
  go_wp2_with fail
  refine wp_region_old (0::1::2::3::4::5::6::7::8::9::10::[]) (by kernel_rfl) (by kernel_rfl) (fun c a d v w h=>by cases d<;>exact h) ?_
  repeat (first|(refine lex_skip rfl (by rfl) ?_;simp only [Act.put,List.setIfInBounds_toArray,List.set])|(refine lex_quiet (v:= ?_) rfl rfl (by rfl) ?_ ?_;rotate_left;(intro W hW;go_simp);(try with_reducible rfl);simp only [Act.put,List.setIfInBounds_toArray,List.set]))
  refine lex_nil ?_
  go_wp2_with fail
  go_ret
  exact ⟨by first|rfl|(congr 2),(Below.refl _ _).drew⟩
 ·rw [if_neg hk]
  by_cases h0:0≤x.game
  ·have t0:decide (0≤x.game)=true:=decide_eq_true h0
   rw [t0,Bool.true_and]
   go_enter Tryz.func52,Tryz.ntmps52
   go_wp2_with fail
   refine wp_region_g (0::1::2::3::4::5::6::7::8::9::10::11::12::13::14::15::16::17::[]) (by kernel_rfl) (by kernel_rfl) (fun c a d v w h=>by cases d<;>exact h) ?_
   repeat (first|(refine gex_skip rfl (by rfl) ?_;simp only [Act.put,List.setIfInBounds_toArray,List.set])|(refine gex_quiet (v:= ?_) rfl rfl (by rfl) ?_ ?_;rotate_left;(intro W hW;go_simp);(try with_reducible rfl);simp only [Act.put,List.setIfInBounds_toArray,List.set]))
   refine gex_nil ?_
   go_wp2_with fail
   go_ret
   exact ⟨rfl,(Below.refl _ _).drew⟩
  ·have t0:decide (0≤x.game)=false:=decide_eq_false h0
   rw [t0,Bool.false_and]
   go_enter Tryz.func52,Tryz.ntmps52
   go_wp2_with fail
   refine wp_region_g (0::1::2::3::4::5::6::7::8::9::10::11::12::13::14::15::16::17::[]) (by kernel_rfl) (by kernel_rfl) (fun c a d v w h=>by cases d<;>exact h) ?_
   repeat (first|(refine gex_skip rfl (by rfl) ?_;simp only [Act.put,List.setIfInBounds_toArray,List.set])|(refine gex_quiet (v:= ?_) rfl rfl (by rfl) ?_ ?_;rotate_left;(intro W hW;go_simp);(try with_reducible rfl);simp only [Act.put,List.setIfInBounds_toArray,List.set]))
   refine gex_nil ?_
   go_wp2_with fail
   go_ret
   exact ⟨rfl,(Below.refl _ _).drew⟩
theorem deedsT:RowType Tryz.prog 23 40 15 224:=RowType.mk (z:= .agg zeroDC) Tryz.underlying23 (by kernel_rfl) rfl (by omega)
theorem perm_subset {α:Type}:∀{A B:List α},A.Nodup→(∀x∈A,x∈B)→A.length=B.length→A.Perm B
 | [],B,_,_,h=>by
  have:B=[]:=List.eq_nil_of_length_eq_zero h.symm
  rw [this]
 |a::A,B,hn,hs,hl=>by
  rw [List.nodup_cons] at hn
  obtain ⟨B1,B2,rfl⟩:=List.append_of_mem (hs a (by simp))
  have h1:(B1++a::B2).Perm (a::(B1++B2)):=List.perm_middle
  refine (List.Perm.cons a (perm_subset hn.2 (fun x hx=> ?_) ?_)).trans h1.symm
  ·have hne:x≠a:=fun e=>hn.1 (e▸hx)
   have:=hs x (by simp [hx])
   simp at this⊢
   rcases this with h|h|h
   ·exact .inl h
   ·exact absurd h hne
   ·exact .inr h
  ·simp at hl⊢
   omega
def upd (f:Nat→Nat) (g b:Nat) (k:Nat):Nat:=if k=g then b else f k
theorem upd_same (f:Nat→Nat) (g b:Nat):upd f g b g=b:=if_pos rfl
theorem upd_other {f:Nat→Nat} {g b k:Nat} (h:k≠g):upd f g b k=f k:=if_neg h
theorem entsG_nodup (l:List DeedP) (f fc:Nat→Nat):((entsG l f fc).map Prod.fst).Nodup:=by
 unfold entsG
 rw [List.map_map]
 show ((List.range (gamesN l)).map fun g=>keyV g).Nodup
 refine List.Pairwise.map _ ?_ (List.nodup_range)
 intro a b hab e
 exact hab (keyV_inj.1 e)
theorem entsG_put {l:List DeedP} {x:DeedP} {g:Nat} (hg:x.game=(g:Int)) (hf:followsD l x=true) (f fc:Nat→Nat) (b c:Nat):
  (((entsG l f fc).filter fun e=> !keyIs (keyV g) e)++ [(keyV g,encS b ((placesOf l (g:Int)).length+1) c)]).Perm (entsG (l++ [x]) (upd f g b) (upd fc g c)):=by
 have hfg:=follows_game hf
 have hN:=gamesN_snoc l x
 have hplace:(placesOf (l++ [x]) (g:Int)).length=(placesOf l (g:Int)).length+1:=by rw [placesOf_snoc,if_pos hg];simp
 have hgN:g<gamesN (l++ [x]):=by have:=hfg.2.1;omega
 have hnd:(entsG (l++ [x]) (upd f g b) (upd fc g c)).Nodup:=(List.Pairwise.of_map Prod.fst (fun a b hab e=>hab (by rw [e])) (entsG_nodup (l++ [x]) (upd f g b) (upd fc g c)))
 refine (perm_subset hnd (fun e he=> ?_) ?_).symm
 ·obtain ⟨k,hk,rfl⟩:=List.mem_map.1 he
  have hk:=List.mem_range.1 hk
  by_cases hkg:k=g
  ·subst hkg
   refine List.mem_append.2 (.inr ?_)
   rw [upd_same,upd_same,hplace]
   exact List.mem_singleton.2 rfl
  ·refine List.mem_append.2 (.inl (List.mem_filter.2 ⟨?_,?_⟩))
   ·have hkl:k<gamesN l:=by
     by_cases h1:x.kind=1
     ·have:=hfg.2.2.2 h1
      rw [hN,if_pos h1] at hk
      omega
     ·rw [hN,if_neg h1] at hk;omega
    have e:placesOf (l++ [x]) (k:Int)=placesOf l (k:Int):=by rw [placesOf_snoc,if_neg (by omega),List.append_nil]
    rw [upd_other hkg,upd_other hkg,e]
    exact entsG_mem hkl
   ·unfold keyIs
    have:(keyV k).sameKey (keyV g)=false:=by
     rw [Bool.eq_false_iff]
     intro e
     exact hkg (keyV_inj.1 (WideAt.sameKey_eq e))
    dsimp only
    rw [this]
    rfl
 ·have hkl:WideAt.IsKeyLit (keyV g):=by simp [keyV,WideAt.IsKeyLit]
  have h1:=filter_key_len hkl (entsG_nodup l f fc)
  rw [entsG_len] at h1
  rw [entsG_len,List.length_append,List.length_singleton,hN]
  by_cases hgl:g<gamesN l
  ·have ha:(entsG l f fc).any (keyIs (keyV g))=true:=(any_key hkl).2 (List.mem_map.2 ⟨_,entsG_mem hgl,rfl⟩)
   rw [if_pos ha] at h1
   have hk:¬x.kind=1:=fun h=>by have:=hfg.2.2.2 h;omega
   rw [if_neg hk]
   omega
  ·have ha:¬(entsG l f fc).any (keyIs (keyV g))=true:=fun h=>entsG_no (f:=f) (fc:=fc) (Nat.le_of_not_lt hgl) ((any_key hkl).1 h)
   rw [if_neg ha] at h1
   have hk:x.kind=1:=by
    by_cases h:x.kind=1
    ·exact h
    ·have:=hfg.2.2.1 h;omega
   rw [if_pos hk]
   omega
def kept (V:VaultR) (x:DeedP) (h':DeedH) (g b c b2 c2:Nat):VaultR:={V with da:=some ⟨b2,0,none⟩,dc:=c2,ds:=V.ds++ [(x,h')],f:=upd V.f g b,fc:=upd V.fc g c}
theorem kept_l (V:VaultR) (x:DeedP) (h':DeedH) (g b c b2 c2:Nat):(kept V x h' g b c b2 c2).l=V.l++ [x]:=by simp [kept,VaultR.l]
section
variable {w w':World} {B d:Nat} {V:VaultR}
theorem keep_mem (h:VaultAt w B d V) {x:DeedP} {h':DeedH} {g b c b2 c2:Nat} (hgx:x.game=(g:Int)) (hm:mayD x=true) (hf:followsD V.l x=true) (hok:OkD x) (hc:V.ds.length<V.R.ls.length)
  (ht:Turn (fun y=>y=V.v∨y=V.mg∨(g<gamesN V.l∧y=V.f g)∨atB V.da y) w w')
  (hblk:Blk w' V.v (vaultCells (kept V x h' g b c b2 c2)) 93) (hgm:GMap w' Tryz.prog 3 Rs V.mg (entsG (V.l++ [x]) (upd V.f g b) (upd V.fc g c)))
  (hrow:Own w' B 3 1 (some ⟨b,0,none⟩) ((placesOf V.l (g:Int)).length+1) c (placesV V.l g++ [.int .i64 (V.ds.length:Int)])) (hbw:(g<gamesN V.l∧b=V.f g)∨w.heap.size≤b)
  (hrd:Own w' B 40 15 (some ⟨b2,0,none⟩) (V.ds.length+1) c2 (dcells V.ds++deedCells x h')) (hb2:atB V.da b2∨w.heap.size≤b2)
  (hdo:DeedOwn w' B x h') (hfr:∀y,inner h' y→w.heap.size≤y∧y≠b):VOnly B d w V w' (kept V x h' g b c b2 c2):=by
 have hfg:=follows_game hf
 have hN:=gamesN_snoc V.l x
 have hl:=kept_l V x h' g b c b2 c2
 have hlen:=V.len
 have hsub:∀y,(y=V.v∨y=V.mg∨(g<gamesN V.l∧y=V.f g)∨atB V.da y)→vrest V y:=by
  rintro y (rfl|rfl|⟨hg,rfl⟩|ha)
  ·exact .inl rfl
  ·exact .inr (.inr (.inr (.inr (.inl rfl))))
  ·exact .inr (.inr (.inr (.inr (.inr (.inr (.inl ⟨g,hg,rfl⟩))))))
  ·exact .inr (.inr (.inl ha))
 have hlf:∀y,lfoot V.R y→w'.heap[y]? =w.heap[y]? :=fun y hy=>ht.block y (h.log.lt hy).2 fun hF=>h.sepl y (hsub y hF) hy
 have hfB:∀k,k<gamesN V.l→∃cur,Blk w (V.f k) cur 3:=fun k hk=>by
  obtain ⟨_,_,cur,hb⟩:=(h.rows k hk).block_lt rfl
  exact ⟨cur,hb⟩
 have hstay:∀y cs t,Blk w y cs t→t≠93→t≠40→(t=3→¬(g<gamesN V.l∧y=V.f g))→w'.heap[y]? =w.heap[y]? :=fun y cs t hb h1 h2 h3=>by
  refine ht.block y hb.lt ?_
  rintro (rfl|rfl|⟨hg,rfl⟩|⟨ad,ha,rfl⟩)
  ·exact Blk.ne hb h.blk h1 rfl
  ·exact hb.ne_gmap h.gm rfl
  ·by_cases e:t=3
   ·exact h3 e ⟨hg,rfl⟩
   ·obtain ⟨cur,hb'⟩:=hfB g hg
    exact Blk.ne hb hb' e rfl
  ·obtain ⟨_,_,cur,hb'⟩:=h.deeds.block_lt ha
   exact Blk.ne hb hb' h2 rfl
 have hgames:∀k,k<gamesN (V.l++ [x])→k≠g→k<gamesN V.l:=fun k hk hne=>by
  by_cases h1:x.kind=1
  ·have:=hfg.2.2.2 h1
   rw [hN,if_pos h1] at hk
   omega
  ·rw [hN,if_neg h1] at hk;omega
 have hfne:∀k,k<gamesN V.l→k≠g→V.f k≠b:=fun k hk hne e=>by
  rcases hbw with ⟨h1,h2⟩|h1
  ·exact hne (h.sepf k g hk h1 (e.trans h2))
  ·obtain ⟨cur,hb⟩:=hfB k hk
   have:=hb.lt
   omega
 have hrest:∀y,vrest (kept V x h' g b c b2 c2) y→vrest V y∨w.heap.size≤y:=by
  intro y hy
  unfold vrest at hy
  rw [hl] at hy
  rcases hy with rfl|hy|⟨ad,ha,rfl⟩|⟨z,hz,hi⟩|rfl|rfl|⟨k,hk,rfl⟩|hy
  ·exact .inl (.inl rfl)
  ·exact .inl (.inr (.inl hy))
  ·cases ha
   exact hb2.imp (fun h=> .inr (.inr (.inl h))) id
  ·rcases List.mem_append.1 (show z∈V.ds++ [(x,h')] from hz) with hz|hz
   ·exact .inl (.inr (.inr (.inr (.inl ⟨z,hz,hi⟩))))
   ·rw [List.mem_singleton.1 hz] at hi
    exact .inr (hfr y hi).1
  ·exact .inl (.inr (.inr (.inr (.inr (.inl rfl)))))
  ·exact .inl (.inr (.inr (.inr (.inr (.inr (.inl rfl))))))
  ·by_cases hkg:k=g
   ·subst hkg
    rw [show (kept V x h' k b c b2 c2).f k=b from upd_same _ _ _]
    rcases hbw with ⟨h1,h2⟩|h1
    ·exact .inl (.inr (.inr (.inr (.inr (.inr (.inr (.inl ⟨k,h1,h2⟩)))))))
    ·exact .inr h1
   ·rw [show (kept V x h' g b c b2 c2).f k=V.f k from upd_other hkg]
    exact .inl (.inr (.inr (.inr (.inr (.inr (.inr (.inl ⟨k,hgames k hk hkg,rfl⟩)))))))
  ·exact .inl (.inr (.inr (.inr (.inr (.inr (.inr (.inr hy)))))))
 refine ⟨ht.mono hsub,?_,hrest,rfl,rfl,rfl,rfl⟩
 refine ⟨h.ge,hblk,?_,h.mz,h.log.keep hlf,?_,?_,by rw [hl];exact hgm,?_,?_,?_,?_,?_,?_,?_,?_⟩
 ·refine h.master.keepAt fun y hy=> ?_
  obtain ⟨_,_,cur,hb⟩:=h.master.block_lt hy
  exact hstay _ _ _ hb (by decide) (by decide) (fun e=>absurd e (by decide))
 ·have e1:(kept V x h' g b c b2 c2).ds.length=V.ds.length+1:=by simp [kept]
  have e2:dcells (kept V x h' g b c b2 c2).ds=dcells V.ds++deedCells x h':=by simp [kept,dcells]
  rw [e1,e2]
  exact hrd
 ·intro z hz
  rcases List.mem_append.1 (show z∈V.ds++ [(x,h')] from hz) with hz|hz
  ·refine (h.each z hz).keepB fun y hy=> ?_
   obtain ⟨_,_,cur,t,hb,ht⟩:=(h.each z hz).innerLt hy
   refine hstay y cur t hb (by rcases ht with rfl|rfl<;>decide) (by rcases ht with rfl|rfl<;>decide) fun e ⟨hg,e2⟩=> ?_
   rcases hy with hy|⟨ad,ha,e3⟩
   ·exact h.sepi g hg z hz (e2▸hy)
   ·obtain ⟨_,_,cur2,hb2⟩:=(h.each z hz).act.pairs.1.block_lt ha
    subst e3
    exact Blk.ne hb hb2 (by rw [e];decide) rfl
  ·rw [List.mem_singleton.1 hz]
   exact hdo
 ·intro k hk
  rw [hl] at hk⊢
  by_cases hkg:k=g
  ·subst hkg
   have e1:placesOf (V.l++ [x]) (k:Int)=placesOf V.l (k:Int)++ [V.ds.length]:=by rw [placesOf_snoc,if_pos hgx,hlen]
   unfold placesV
   rw [show (kept V x h' k b c b2 c2).f k=b from upd_same _ _ _,show (kept V x h' k b c b2 c2).fc k=c from upd_same _ _ _,e1,List.length_append,List.map_append]
   exact hrow
  ·have hkl:=hgames k hk hkg
   have e1:placesOf (V.l++ [x]) (k:Int)=placesOf V.l (k:Int):=by rw [placesOf_snoc,if_neg (by omega),List.append_nil]
   unfold placesV
   rw [show (kept V x h' g b c b2 c2).f k=V.f k from upd_other hkg,show (kept V x h' g b c b2 c2).fc k=V.fc k from upd_other hkg,e1]
   refine (h.rows k hkl).keepAt fun y hy=> ?_
   cases hy
   obtain ⟨cur,hb⟩:=hfB k hkl
   exact hstay _ _ _ hb (by decide) (by decide) fun _ ⟨hg,e⟩=>hkg (h.sepf k g hkl hg e)
 ·intro k k' hk hk' e
  rw [hl] at hk hk'
  by_cases h1:k=g
  ·by_cases h2:k'=g
   ·rw [h1,h2]
   ·exfalso
    subst h1
    rw [show (kept V x h' k b c b2 c2).f k=b from upd_same _ _ _,show (kept V x h' k b c b2 c2).f k'=V.f k' from upd_other h2] at e
    exact hfne k' (hgames k' hk' h2) h2 e.symm
  ·by_cases h2:k'=g
   ·exfalso
    subst h2
    rw [show (kept V x h' k' b c b2 c2).f k'=b from upd_same _ _ _,show (kept V x h' k' b c b2 c2).f k=V.f k from upd_other h1] at e
    exact hfne k (hgames k hk h1) h1 e
   ·rw [show (kept V x h' g b c b2 c2).f k=V.f k from upd_other h1,show (kept V x h' g b c b2 c2).f k'=V.f k' from upd_other h2] at e
    exact h.sepf k k' (hgames k hk h1) (hgames k' hk' h2) e
 ·intro k hk z hz hi
  rw [hl] at hk
  by_cases hkg:k=g
  ·subst hkg
   rw [show (kept V x h' k b c b2 c2).f k=b from upd_same _ _ _] at hi
   rcases List.mem_append.1 (show z∈V.ds++ [(x,h')] from hz) with hz|hz
   ·rcases hbw with ⟨h1,h2⟩|h1
    ·exact h.sepi k h1 z hz (h2▸hi)
    ·have:=((h.each z hz).innerLt (.inl hi)).2.1;omega
   ·rw [List.mem_singleton.1 hz] at hi
    exact (hfr b (.inl hi)).2 rfl
  ·have hkl:=hgames k hk hkg
   rw [show (kept V x h' g b c b2 c2).f k=V.f k from upd_other hkg] at hi
   rcases List.mem_append.1 (show z∈V.ds++ [(x,h')] from hz) with hz|hz
   ·exact h.sepi k hkl z hz hi
   ·rw [List.mem_singleton.1 hz] at hi
    have h1:=(hfr _ (.inl hi)).1
    obtain ⟨cur,hb⟩:=hfB k hkl
    have:=hb.lt
    omega
 ·refine h.bm.keep (ht.block _ h.bm.lt ?_)
  rintro (e|e|⟨hg,e⟩|⟨ad,ha,e⟩)
  ·exact (h.blk.ne_gmap h.bm) e.symm
  ·exact h.ge.2.2.2 e.symm
  ·obtain ⟨cur,hb⟩:=hfB g hg
   exact (hb.ne_gmap h.bm) e.symm
  ·obtain ⟨_,_,cur,hb⟩:=h.deeds.block_lt ha
   exact (hb.ne_gmap h.bm) e.symm
 ·intro y hy
  obtain ⟨h1,h2,h3⟩:=h.boxes y hy
  exact ⟨h1,h2,(hstay _ _ _ h3 (by decide) (by decide) (fun e=>absurd e (by decide))).trans h3⟩
 ·intro y hy hy2
  rcases hrest y hy with h1|h1
  ·exact h.sepl y h1 hy2
  ·have:=(h.log.lt hy2).2;omega
 ·rw [hl]
  exact GoodD.snoc h.good hm hf hok
 ·show (V.ds++ [(x,h')]).length≤V.R.ls.length
  simp
  omega
end
end
end Go.Proofs.YtioigihakjlopaaGreat

import Derived.Test.YtioigihakjlopaaGreatVF04
import Derived.Maps.RangeWalk
import Derived.StringKeys
namespace Go.Proofs.YtioigihakjlopaaGreat
open Go.Proofs.Tryz
set_option linter.unusedVariables false
set_option linter.unusedSimpArgs false
set_option maxHeartbeats 16000000
set_option maxRecDepth 100000
section
open Go.RowKit Go.Maps
abbrev DU:=DataW Unit
def cf (kl:Lit) (x:Lit×DU):Bool:=x.1.sameKey kl
structure iP (w:World) (P:Program) (k:TypeId) (R:Value->Option (DU×List MemPlace)) (M:Nat) (l:List (Lit×DU)):Prop where
 ex:∃D,w.ownsMap P k R M l.length D/\(∀kl z,D.atKey kl z=((l.find? (cf kl)).map (·.2)).getD z)/\(∀kl,Maps.has D kl=l.any (cf kl))/\Maps.size D=l.length
 keys:∀x∈l,WideAt.IsKeyLit x.1
 nd:(l.map Prod.fst).Nodup
theorem cI {a b:Lit} (ha:WideAt.IsKeyLit a):a.sameKey b=true↔a=b:=by
 refine ⟨VP,?_⟩;rintro rfl;cases a<;>simp_all [Lit.sameKey,WideAt.IsKeyLit]
section
variable {w w':World} {P:Program} {k:TypeId} {R:Value->Option (DU×List MemPlace)} {M:Nat} {l:List (Lit×DU)}
theorem mr {n:Nat} {D:DU} (h:w.ownsMap P k R M n D):w.ownsMap P k R M (Maps.size D) D:=by
 obtain ⟨es,clock,hb,F,_,hD⟩:=h;refine ⟨es,clock,hb,F,?_,hD⟩;rw [hD];simp [Maps.size,length_sorted]
theorem iP.made (w:World) (P:Program) (k:TypeId) (R:Value->Option (DU×List MemPlace)):iP (w.alloc (.map #[] 0)) P k R w.heap.size []:=
 ⟨⟨.map [],World.ownsMap_made w P k R,fun _ _=>rfl,fun _=>rfl,rfl⟩,skA,skA⟩
theorem iP.lt (h:iP w P k R M l):M<w.heap.size:=by
 obtain ⟨D,h1,_⟩:=h.ex;exact h1.lt
theorem iP.keep (h:iP w P k R M l) (hk:w'.heap[M]? =w.heap[M]?):iP w' P k R M l:=by
 obtain ⟨D,⟨es,clock,hb,h1⟩,h2⟩:=h.ex;exact ⟨⟨D,⟨es,clock,hk.trans hb,h1⟩,h2⟩,h.keys,h.nd⟩
theorem oF {kl:Lit} {d:DU} (hk:WideAt.IsKeyLit kl):∀{l:List (Lit×DU)},(l.map Prod.fst).Nodup->(kl,d)∈l->l.find? (cf kl)=some (kl,d)
 | [],_,h=>by cases h
 |x::l,hn,h=>by
  simp only [WY,XH] at hn;rcases Ve.1 h with e|h'
  .subst e;rw [XL,show cf kl (kl,d)=true from (cI hk).2 rfl]
  .have hne:cf kl x=false:=by
    rw [Vq];intro e;have e':x.1=kl:=VP e;exact hn.1 (e'▸WX (f:=Prod.fst) h')
   rw [XL,hne];exact oF hk hn.2 h'
theorem kO {kl:Lit}:∀{l:List (Lit×DU)},kl∉l.map Prod.fst->l.find? (cf kl)=none:=by
 intro l h;rw [XZ];intro x hx e;exact h ((VP e)▸WX (f:=Prod.fst) hx)
theorem qt {kl:Lit} (hk:WideAt.IsKeyLit kl) {l:List (Lit×DU)}:l.any (cf kl)=true↔kl∈l.map Prod.fst:=by
 rw [Vp];constructor
 .rintro ⟨x,hx,e⟩;exact (VP e)▸WX (f:=Prod.fst) hx
 .intro h;obtain ⟨x,hx,e⟩:=VY.1 h;exact ⟨x,hx,by unfold cf;rw [e];exact (cI hk).2 rfl⟩
variable {t e:TypeId}
theorem iP.look (h:iP w P k R M l) (K:Keyed P k) (ht:P.underlying t=some (.map k e)) {z:Value} (hz:(zeroValue e).run P w= .ok z w) {zd:DU} {zp:List MemPlace} (hzd:R z=some (zd,zp))
  {key:Value} {kl:Lit} (hkey:keyOf P k key=some kl) {d:DU} (hm:(kl,d)∈l):∃v ps,(Instr.lookup t (.map (some M)) key false).run P w= .ok v w/\R v=some (d,ps):=by
 obtain ⟨D,h1,h2,_,_⟩:=h.ex;obtain ⟨v,ps,hr,hv⟩:=h1.lookup K ht hz hzd hkey;refine ⟨v,ps,hr,?_⟩;rw [hv,h2,oF (K.key hkey) h.nd hm];rfl
theorem iP.look_no (h:iP w P k R M l) (K:Keyed P k) (ht:P.underlying t=some (.map k e)) {z:Value} (hz:(zeroValue e).run P w= .ok z w) {zd:DU} {zp:List MemPlace} (hzd:R z=some (zd,zp))
  {key:Value} {kl:Lit} (hkey:keyOf P k key=some kl) (hm:kl∉l.map Prod.fst):∃v ps,(Instr.lookup t (.map (some M)) key false).run P w= .ok v w/\R v=some (zd,ps):=by
 obtain ⟨D,h1,h2,_,_⟩:=h.ex;obtain ⟨v,ps,hr,hv⟩:=h1.lookup K ht hz hzd hkey;refine ⟨v,ps,hr,?_⟩;rw [hv,h2,kO hm];rfl
theorem iP.len (h:iP w P k R M l) (ht:P.underlying t=some (.map k e)) (ty:TypeId):(Builtin.len_ #[t] ty #[.map (some M)]).run P w= .ok (.int .i64 (l.length:Int)) w:=by
 obtain ⟨D,h1,_,_,h4⟩:=h.ex;rw [h1.len ht ty,h4]
theorem iP.perm {l':List (Lit×DU)} (h:iP w P k R M l) (hp:l.Perm l'):iP w P k R M l':=by
 obtain ⟨D,h1,h2,h3,h4⟩:=h.ex;have hn':(l'.map Prod.fst).Nodup:=(hp.map _).nodup_iff.1 h.nd;refine ⟨⟨D,by rw [<-hp.length_eq];exact h1,fun kl z=> ?_,fun kl=> ?_,by rw [h4,hp.length_eq]⟩,fun x hx=>h.keys x (hp.mem_iff.2 hx),hn'⟩
 .rw [h2];congr 2;cases hf:l.find? (cf kl) with
  |none=>
   symm;rw [XZ] at hf⊢;intro x hx;exact hf x (hp.mem_iff.2 hx)
  |some x=>
   have hm:=List.mem_of_find?_eq_some hf;have he0:=List.find?_some hf;have he:x.1=kl:=VP he0;obtain ⟨x1,x2⟩:=x;cases he;exact (oF (h.keys _ hm) hn' (hp.mem_iff.1 hm)).symm
 .rw [h3,Wj,Vp,Vp];exact ⟨fun ⟨x,hx,e⟩=>⟨x,hp.mem_iff.1 hx,e⟩,fun ⟨x,hx,e⟩=>⟨x,hp.mem_iff.2 hx,e⟩⟩
theorem iP.add (h:iP w P k R M l) (K:Keyed P k) (ht:P.underlying t=some (.map k e)) (hn:l.length<maxLen) {key val:Value} {kl:Lit} {d:DU} {ps:List MemPlace} (hkey:keyOf P k key=some kl) (hv:R val=some (d,ps)) (hm:kl∉l.map Prod.fst):
  ∃w',(Instr.mapUpdate t (.map (some M)) key val).run P w= .ok () w'/\iP w' P k R M (l++ [(kl,d)])/\w.mapTurned w' M:=by
 obtain ⟨D,h1,h2,h3,h4⟩:=h.ex;obtain ⟨w',hr,ho,ht'⟩:=h1.store K ht hn hkey hv;have hkl:=K.key hkey;have hno:Maps.has D kl=false:=by
  rw [h3,Vq];intro e;exact hm ((qt hkl).1 e)
 refine ⟨w',hr,⟨⟨D.put kl d,by rw [laA];exact ho,fun k' z=> ?_,fun k'=> ?_,?_⟩,fun x hx=> ?_,?_⟩,ht'⟩
 .rw [List.find?_append];by_cases hk':k'=kl
  .subst hk';rw [Maps.atKey_put_same h1.isMap hkl,kO hm];simp [cf,(cI hkl).2 rfl]
  .rw [Maps.atKey_put_other hk',h2];have hne:cf k' (kl,d)=false:=by
    rw [Vq];intro e;exact hk' (VP e).symm
   simp [hne]
 .rw [List.any_append];by_cases hk':k'=kl
  .subst hk';rw [Maps.has_put_same h1.isMap hkl];simp [cf,(cI hkl).2 rfl]
  .rw [Maps.has_put_other hk',h3];have hne:cf k' (kl,d)=false:=by
    rw [Vq];intro e;exact hk' (VP e).symm
   simp [hne]
 .obtain ⟨es,e1,e2,_⟩:=h1.entries K;rw [Maps.size_put ⟨es,e1,e2⟩,hno,h4];simp
 .rcases VQ.1 hx with hx|hx
  .exact h.keys x hx
  .rw [VH.1 hx];exact hkl
 .rw [VG,WY,XF];rw [XE];exact ⟨h.nd,skA,by
   intro a ha b hb e;rw [VH] at hb;subst hb;exact hm (e▸ha)⟩
theorem iP.del (h:iP w P k R M l) (K:Keyed P k) (ht:P.underlying t=some (.map k e)) {key:Value} {kl:Lit} (hkey:keyOf P k key=some kl) (ty:TypeId):
  ∃w',(Builtin.delete_ #[t,k] ty #[.map (some M),key]).run P w= .ok (.tuple #[]) w'/\iP w' P k R M (l.filter fun x=> !cf kl x)/\w.mapTurned w' M:=by
 obtain ⟨D,h1,h2,h3,h4⟩:=h.ex;obtain ⟨w',hr,ho,ht'⟩:=h1.drop K ht hkey ty;have hkl:=K.key hkey;have hnd:((l.filter fun x=> !cf kl x).map Prod.fst).Nodup:=h.nd.sublist (List.filter_sublist.map _);have hsz:Maps.size (D.del kl)=(l.filter fun x=> !cf kl x).length:=by
  obtain ⟨es,e1,e2,_⟩:=h1.entries K;have e3:=Maps.size_del (k:=kl) ⟨es,e1,e2⟩;rw [h3,h4] at e3;have e4:l.length=(l.filter (cf kl)).length+(l.filter fun x=> !cf kl x).length:=by
   have:=(List.filter_append_perm (cf kl) l).length_eq;rw [laA] at this;exact this.symm
  have e5:(l.filter (cf kl)).length=if l.any (cf kl)=true then 1 else 0:=by
   by_cases ha:l.any (cf kl)=true
   .rw [if_pos ha];obtain ⟨x,hx,e6⟩:=VY.1 ((qt hkl).1 ha);have hle:(l.filter (cf kl)).length<=1:=by
     have hn2:((l.filter (cf kl)).map Prod.fst).Nodup:=h.nd.sublist (List.filter_sublist.map _);have hall:∀y∈(l.filter (cf kl)).map Prod.fst,y=kl:=by
      intro y hy;obtain ⟨z,hz,rfl⟩:=VY.1 hy;exact VP (Vt.1 hz).2
     match hq:(l.filter (cf kl)).map Prod.fst with
     | []=>have:=WG List.length hq;rw [lmA] at this;rw [this];simp
     | [a]=>have:=WG List.length hq;rw [lmA] at this;rw [this];simp
     |a::b::r=>
      rw [hq] at hn2 hall;have ea:=hall a skA;have eb:=hall b skA;simp [ea,eb] at hn2
    have hge:0<(l.filter (cf kl)).length:=List.length_pos_of_mem (Vt.2 ⟨hx,by unfold cf;rw [e6];exact (cI hkl).2 rfl⟩);omega
   .rw [if_neg ha];have:l.filter (cf kl)=[]:=by
     rw [List.filter_eq_nil_iff];intro x hx e;exact ha (Vp.2 ⟨x,hx,e⟩)
    rw [this];rfl
  have e7:(if l.any (cf kl)=true then 1 else 0)=(if l.any (cf kl) then 1 else 0:Nat):=rfl;omega
 refine ⟨w',hr,⟨⟨D.del kl,by rw [<-hsz];exact mr ho,fun k' z=> ?_,fun k'=> ?_,hsz⟩,fun x hx=>h.keys x (Vt.1 hx).1,hnd⟩,ht'⟩
 .by_cases hk':k'=kl
  .subst hk';rw [Maps.atKey_del_same,kO]
   .rfl
   .intro hm;obtain ⟨x,hx,e⟩:=VY.1 hm;have h5:=(Vt.1 hx).2;simp only [cf,e,(cI hkl).2 rfl] at h5;cases h5
  .rw [Maps.atKey_del_other hk',h2];congr 2;rw [Maps.find_filter_keep];intro x hx;rw [XS,Vq];intro e;exact hk' ((VP hx).symm.trans (VP e))
 .by_cases hk':k'=kl
  .subst hk';rw [Maps.has_del_same];symm;rw [Vq];intro e;obtain ⟨x,hx,e2⟩:=Vp.1 e;have h5:=(Vt.1 hx).2;rw [e2] at h5;cases h5
  .rw [Maps.has_del_other hk',h3,Maps.any_filter_keep];intro x hx;rw [XS,Vq];intro e;exact hk' ((VP hx).symm.trans (VP e))
end
section
theorem lp {kl:Lit} (hkl:WideAt.IsKeyLit kl) {l:List (Lit×DU)} (nd:(l.map Prod.fst).Nodup):l.length=(if l.any (cf kl)=true then 1 else 0)+(l.filter fun x=> !cf kl x).length:=by
 have e4:l.length=(l.filter (cf kl)).length+(l.filter fun x=> !cf kl x).length:=by
  have:=(List.filter_append_perm (cf kl) l).length_eq;rw [laA] at this;exact this.symm
 have e5:(l.filter (cf kl)).length=if l.any (cf kl)=true then 1 else 0:=by
  by_cases ha:l.any (cf kl)=true
  .rw [if_pos ha];obtain ⟨x,hx,e6⟩:=VY.1 ((qt hkl).1 ha);have hle:(l.filter (cf kl)).length<=1:=by
    have hn2:((l.filter (cf kl)).map Prod.fst).Nodup:=nd.sublist (List.filter_sublist.map _);have hall:∀y∈(l.filter (cf kl)).map Prod.fst,y=kl:=by
     intro y hy;obtain ⟨z,hz,rfl⟩:=VY.1 hy;exact VP (Vt.1 hz).2
    match hq:(l.filter (cf kl)).map Prod.fst with
    | []=>have:=WG List.length hq;rw [lmA] at this;rw [this];simp
    | [a]=>have:=WG List.length hq;rw [lmA] at this;rw [this];simp
    |a::b::r=>
     rw [hq] at hn2 hall;have ea:=hall a skA;have eb:=hall b skA;simp [ea,eb] at hn2
   have hge:0<(l.filter (cf kl)).length:=List.length_pos_of_mem (Vt.2 ⟨hx,by unfold cf;rw [e6];exact (cI hkl).2 rfl⟩);omega
  .rw [if_neg ha];have:l.filter (cf kl)=[]:=by
    rw [List.filter_eq_nil_iff];intro x hx e;exact ha (Vp.2 ⟨x,hx,e⟩)
   rw [this];rfl
 omega
variable {w w':World} {P:Program} {k:TypeId} {R:Value->Option (DU×List MemPlace)} {M:Nat} {l:List (Lit×DU)} {t e:TypeId}
theorem iP.put (h:iP w P k R M l) (K:Keyed P k) (ht:P.underlying t=some (.map k e)) (hn:l.length<maxLen) {key val:Value} {kl:Lit} {d:DU} {ps:List MemPlace} (hkey:keyOf P k key=some kl) (hv:R val=some (d,ps)):
  ∃w',(Instr.mapUpdate t (.map (some M)) key val).run P w= .ok () w'/\iP w' P k R M ((l.filter fun x=> !cf kl x)++ [(kl,d)])/\w.mapTurned w' M:=by
 obtain ⟨D,h1,h2,h3,h4⟩:=h.ex;obtain ⟨w',hr,ho,ht'⟩:=h1.store K ht hn hkey hv;have hkl:=K.key hkey;have hlen:=lp hkl h.nd;have hsz:Maps.size (D.put kl d)=((l.filter fun x=> !cf kl x)++ [(kl,d)]).length:=by
  obtain ⟨es,e1,e2,_⟩:=h1.entries K;rw [Maps.size_put ⟨es,e1,e2⟩,h3,h4,laA];by_cases ha:l.any (cf kl)=true
  .rw [if_pos ha] at hlen⊢;simp;omega
  .rw [if_neg ha] at hlen⊢;simp;omega
 refine ⟨w',hr,⟨⟨D.put kl d,by rw [<-hsz];exact mr ho,fun k' z=> ?_,fun k'=> ?_,hsz⟩,fun x hx=> ?_,?_⟩,ht'⟩
 .rw [List.find?_append];by_cases hk':k'=kl
  .subst hk';rw [Maps.atKey_put_same h1.isMap hkl,kO]
   .simp [cf,(cI hkl).2 rfl]
   .intro hm;obtain ⟨x,hx,e⟩:=VY.1 hm;have h5:=(Vt.1 hx).2;simp only [cf,e,(cI hkl).2 rfl] at h5;cases h5
  .rw [Maps.atKey_put_other hk',h2];have hne:cf k' (kl,d)=false:=by
    rw [Vq];intro e;exact hk' (VP e).symm
   rw [Maps.find_filter_keep]
   .simp [hne]
   .intro x hx;rw [XS,Vq];intro e;exact hk' ((VP hx).symm.trans (VP e))
 .rw [List.any_append];by_cases hk':k'=kl
  .subst hk';rw [Maps.has_put_same h1.isMap hkl];simp [cf,(cI hkl).2 rfl]
  .rw [Maps.has_put_other hk',h3];have hne:cf k' (kl,d)=false:=by
    rw [Vq];intro e;exact hk' (VP e).symm
   rw [Maps.any_filter_keep]
   .simp [hne]
   .intro x hx;rw [XS,Vq];intro e;exact hk' ((VP hx).symm.trans (VP e))
 .rcases VQ.1 hx with hx|hx
  .exact h.keys x (Vt.1 hx).1
  .rw [VH.1 hx];exact hkl
 .rw [VG,WY,XF];rw [XE];refine ⟨h.nd.sublist (List.filter_sublist.map _),skA,?_⟩;intro a ha b hb e;rw [VH] at hb;subst hb;obtain ⟨x,hx,e2⟩:=VY.1 ha;have h5:=(Vt.1 hx).2;simp only [cf,e2,e,(cI hkl).2 rfl] at h5;cases h5
end
structure vw (w:World) (P:Program) (k:TypeId) (R:Value->Option (DU×List MemPlace)) (M r:Nat) (l todo:List (Lit×DU)):Prop where
 map:iP w P k R M l
 ex:∃D left cnt,w.ranges P k R M r l.length D left cnt/\(∀kl z,D.atKey kl z=((l.find? (cf kl)).map (·.2)).getD z)/\(∀kl,left kl=todo.any (cf kl))/\cnt=w.rangeLeft M r
 sub:∀x∈todo,x∈l
 nd:(todo.map Prod.fst).Nodup
section
variable {w w':World} {P:Program} {k:TypeId} {R:Value->Option (DU×List MemPlace)} {M r:Nat} {l todo:List (Lit×DU)} {t e:TypeId}
theorem vw.ne (h:vw w P k R M r l todo):r≠M:=by
 obtain ⟨D,left,cnt,h1,_⟩:=h.ex;exact h1.ne
theorem vw.lt (h:vw w P k R M r l todo):r<w.heap.size:=by
 obtain ⟨D,left,cnt,h1,_⟩:=h.ex;exact h1.lt
theorem wg {n:Nat} {D:DU} {left:Lit->Bool} {cnt:Nat} (h:w.ranges P k R M r n D left cnt) (hM:w'.heap[M]? =w.heap[M]?) (hr:w'.heap[r]? =w.heap[r]?):w'.ranges P k R M r n D left cnt:=by
 obtain ⟨es,clock,since,seen,c0,hb,F,hs,hD,hr0,rest⟩:=h;exact ⟨es,clock,since,seen,c0,hM.trans hb,F,hs,hD,hr.trans hr0,rest⟩
theorem vw.keep (h:vw w P k R M r l todo) (hM:w'.heap[M]? =w.heap[M]?) (hr:w'.heap[r]? =w.heap[r]?):vw w' P k R M r l todo:=by
 obtain ⟨D,left,cnt,h1,h2,h3,h4⟩:=h.ex;have h5:=wg h1 hM hr;exact ⟨h.map.keep hM,⟨D,left,cnt,h5,h2,h3,h5.left_eq.symm⟩,h.sub,h.nd⟩
theorem iP.range (h:iP w P k R M l) (K:Keyed P k) (ht:P.underlying t=some (.map k e)):
  ∃w',(Instr.range t (.map (some M))).run P w= .ok (.pointer (some ⟨w.heap.size,0,none⟩)) w'/\vw w' P k R M w.heap.size l l/\w.grownBy w' none/\w'.heap.size=w.heap.size+1:=by
 obtain ⟨D,h1,h2,h3,h4⟩:=h.ex;obtain ⟨w',hr,hg,hgr,hsz⟩:=h1.range K ht;refine ⟨w',hr,⟨h.keep (hgr.block M h.lt skA),⟨D,_,_,hg,h2,h3,hg.left_eq.symm⟩,fun x hx=>hx,h.nd⟩,hgr,hsz⟩
theorem vw.next (h:vw w P k R M r l todo) (K:Keyed P k) (ty:TypeId):
  (todo=[]/\(Instr.next (.pointer (some ⟨r,0,none⟩)) false ty).run P w= .ok (.tuple #[.bool false]) w)\/
  ∃key v kl d ps w',keyOf P k key=some kl/\(kl,d)∈todo/\R v=some (d,ps)/\(Instr.next (.pointer (some ⟨r,0,none⟩)) false ty).run P w= .ok (.tuple #[.bool true,key,v]) w'/\
   vw w' P k R M r l (todo.filter fun x=> !cf kl x)/\w'.rangeLeft M r<w.rangeLeft M r/\w.grownBy w' (some r)/\w'.heap.size=w.heap.size/\(Instr.entry (.pointer (some ⟨r,0,none⟩))).run P w'= .ok (.tuple #[key,v]) w':=by
 obtain ⟨D,left,cnt,h1,h2,h3,h4⟩:=h.ex;rcases h1.next K ty with ⟨_,hl,hrun⟩|⟨key,v,kl,y,w',cnt',hkey,hlk,hv,hat,hrun,hrg,hlt,hgr,hsz,hen⟩
 .refine .inl ⟨?_,hrun⟩;cases htodo:todo with
  |nil=>rfl
  |cons x rest=>
   have hx:x∈todo:=(by rw [htodo];simp);have:=hl x.1;rw [h3] at this;have h5:todo.any (cf x.1)=true:=Vp.2 ⟨x,hx,(cI (h.map.keys x (h.sub x hx))).2 rfl⟩;rw [h5] at this;cases this
 .have hkl:=K.key hkey;rw [h3] at hlk;obtain ⟨x,hx,ek⟩:=Vp.1 hlk;have hxk:x.1=kl:=VP ek;obtain ⟨x1,d⟩:=x;cases hxk;have hd:y.1=d:=by
   have e1:=hat (.lit (.bool true));rw [h2,oF hkl h.map.nd (h.sub _ hx)] at e1;exact e1.symm
  obtain ⟨y1,y2⟩:=y;cases hd;have hne:r≠M:=h.ne;refine .inr ⟨key,v,x1,y1,y2,w',hkey,hx,hv,hrun,⟨h.map.keep (hgr.block M h.map.lt (by simp [Vf hne])),⟨D,_,cnt',hrg,h2,fun kl'=> ?_,hrg.left_eq.symm⟩,fun z hz=>h.sub z (Vt.1 hz).1,h.nd.sublist (List.filter_sublist.map _)⟩,?_,hgr,hsz,hen⟩
  .rw [h3];rw [Wj,VN,Vp,Vp];constructor
   .rintro ⟨⟨z,hz,ez⟩,hn⟩;refine ⟨z,Vt.2 ⟨hz,?_⟩,ez⟩;rw [XS] at hn⊢;rw [Vq] at hn⊢;intro e1;have ea:z.1=kl':=VP ez;have eb:z.1=x1:=VP e1;apply hn;rw [<-ea,eb];exact (cI hkl).2 rfl
   .rintro ⟨z,hz,ez⟩;obtain ⟨hz1,hz2⟩:=Vt.1 hz;refine ⟨⟨z,hz1,ez⟩,?_⟩;rw [XS] at hz2⊢;rw [Vq] at hz2⊢;intro e1;have ea:z.1=kl':=VP ez;have eb:kl'=x1:=VP e1;apply hz2;show z.1.sameKey x1=true;rw [ea,eb];exact (cI hkl).2 rfl
  .rw [hrg.left_eq,<-h4];exact hlt
end
def Rp:Value->Option (DU×List MemPlace)
 | .pointer (some ⟨b,0,none⟩)=>some (.lit (.int .i64 b),[])
 | .pointer none=>some (.lit (.int .i64 (-1)),[])
 |_=>none
theorem Mm (b:Nat):Rp (.pointer (some ⟨b,0,none⟩))=some (.lit (.int .i64 b),[]):=rfl
theorem GP {v:Value} {b:Nat} {ps:List MemPlace} (h:Rp v=some (.lit (.int .i64 (b:Int)),ps)):v= .pointer (some ⟨b,0,none⟩):=by
 unfold Rp at h;split at h
 .simp at h;rename_i b';have h2:b'=b:=oA;rw [h2]
 .simp at h
 .cases h
theorem Ml {v:Value} {ps:List MemPlace} (h:Rp v=some (.lit (.int .i64 (-1)),ps)):v= .pointer none:=by
 unfold Rp at h;split at h
 .simp at h
 .rfl
 .cases h
theorem Mid.take {w:World} {B:Nat} {e:TypeId} {a:Option Addr} {n c:Nat} {vs:List Value} (h:Mid w B e a n c vs) {k:Nat} (hk:k<=n):Mid w B e a k c (vs.take k):=by
 refine ⟨by rw [ltA,h.len];omega,At hk h.le,h.max,h.nil,fun hc=> ?_⟩;obtain ⟨r,o,cur,h1,h2,h3,h4,h5⟩:=h.row hc;refine ⟨r,o,cur,h1,h2,h3,h4,?_⟩;rw [<-h5,List.take_take,Nat.min_eq_left hk]
structure bJ where
 nm:bz
 blk:Nat
 a:Option Addr
 c:Nat
 b:List UInt8
 sure:Nat
def bJ.p (f:bJ):dx:=⟨f.nm,f.b,f.sure⟩
structure aF where
 d:Nat
 m:Nat
 fs:List bJ
 down:Bool
 armed:Bool
 left:Int
 pa:Option Addr
 pc:Nat
 plan:eA
def aF.p (r:aF):aM:=⟨r.fs.map (·.p),r.down,r.armed,r.left,r.plan⟩
def eu (x:bz×Int):List Value:=[.string x.1,.int .i64 x.2]
def nW (s:bz):Lit:= .string s.data.toList
theorem kt {s t:bz} (h:nW s=nW t):s=t:=by
 obtain ⟨⟨a⟩⟩:=s;obtain ⟨⟨b⟩⟩:=t;simp only [nW,Lit.string.injEq] at h;rw [h]
def fT (f:bJ):Lit×DU:=(nW f.nm,.lit (.int .i64 (f.blk:Int)))
structure jv (w:World) (B:Nat) (f:bJ):Prop where
 blk:Blk w f.blk #[.slice f.a f.b.length f.c,.int .i64 (f.sure:Int)] 112
 ge:B<=f.blk
 row:Mid w B 5 f.a f.b.length f.c (f.b.map bv)
def jf (r:aF):Array Value:= #[.map (some r.m),.bool r.down,.bool r.armed,.int .i64 r.left,.slice r.pa r.plan.length r.pc]
structure aG (w:World) (B:Nat) (r:aF):Prop where
 ged:B<=r.d
 gem:B<=r.m
 blk:Blk w r.d (jf r) 85
 map:iP w prog 9 Rp r.m (r.fs.map fT)
 files:∀f∈r.fs,jv w B f
 apart:r.fs.Pairwise fun f g=>f.blk≠g.blk/\∀x,bE f.a f.c=some x->bE g.a g.c≠some x
 plan:Own w B 130 2 r.pa r.plan.length r.pc (r.plan.flatMap eu)
 ok:dN r.p
def eM (r:aF) (x:Nat):Prop:=x=r.d\/x=r.m\/(∃f∈r.fs,x=f.blk\/bE f.a f.c=some x)\/r.pa.map (·.block)=some x
section
variable {w w':World} {B:Nat} {f:bJ} {r r' r'':aF}
theorem jv.keep (h:jv w B f) (h1:w'.heap[f.blk]? =w.heap[f.blk]?) (h2:∀x,bE f.a f.c=some x->w'.heap[x]? =w.heap[x]?):jv w' B f:=
 ⟨h1.trans h.blk,h.ge,h.row.keep h2⟩
theorem aG.keep (h:aG w B r) (hk:∀x,eM r x->w'.heap[x]? =w.heap[x]?):aG w' B r:=
 ⟨h.ged,h.gem,(hk _ (.inl rfl)).trans h.blk,h.map.keep (hk _ (.inr (.inl rfl))),fun f hf=>(h.files f hf).keep (hk _ (.inr (.inr (.inl ⟨f,hf,.inl rfl⟩)))) (fun x hx=>hk _ (.inr (.inr (.inl ⟨f,hf,.inr hx⟩)))),
  h.apart,h.plan.keepAt fun x hx=>hk _ (.inr (.inr (.inr (by rw [hx];rfl)))),h.ok⟩
theorem aG.lt (h:aG w B r) {x:Nat} (hx:eM r x):B<=x/\x<w.heap.size:=by
 rcases hx with rfl|rfl|⟨f,hf,rfl|hx⟩|hx
 .exact ⟨h.ged,h.blk.lt⟩
 .exact ⟨h.gem,h.map.lt⟩
 .exact ⟨(h.files f hf).ge,(h.files f hf).blk.lt⟩
 .obtain ⟨h1,h2,_⟩:=(h.files f hf).row.lt hx;exact ⟨h1,h2⟩
 .rw [WR] at hx;obtain ⟨a,ha,rfl⟩:=hx;obtain ⟨h1,h2,_⟩:=h.plan.block_lt ha;exact ⟨h1,h2⟩
theorem aG.old (h:aG w B r) (hb:Below w.heap.size w w'):aG w' B r:=h.keep fun x hx=>hb.block x (h.lt hx).2
theorem aG.drew (h:aG w B r):aG w.drew B r:=h.keep fun _ _=>rfl
theorem aG.alloc (h:aG w B r) (o:Obj):aG (w.alloc o) B r:=h.old ((AT _ _).alloc (Lt _) o)
theorem aG.turn (h:aG w B r) {F:Nat->Prop} (ht:aJ F w w') (hF:∀x,eM r x->¬F x):aG w' B r:=h.keep fun x hx=>ht.block x (h.lt hx).2 (hF x hx)
structure ct (B:Nat) (w:World) (r:aF) (w':World) (r':aF):Prop where
 turn:aJ (eM r) w w'
 at':aG w' B r'
 foot':∀x,eM r' x->eM r x\/w.heap.size<=x
 d:r'.d=r.d
theorem ct.refl (h:aG w B r):ct B w r w r:=⟨aJ.refl _ _,h,fun _ hx=> .inl hx,rfl⟩
theorem ct.trans {w'':World} (h:ct B w r w' r') (h':ct B w' r' w'' r''):ct B w r w'' r'':=
 ⟨h.turn.trans h'.turn h.foot',h'.at',fun x hx=>by
  rcases h'.foot' x hx with h1|h1
  .exact h.foot' x h1
  .exact .inr (At h.turn.size h1),h'.d.trans h.d⟩
theorem ct.below (h:ct B w r w' r') (hr:aG w B r) (hB:B<=w.heap.size):Below B w w':=h.turn.below (fun _ hx=>(hr.lt hx).1) hB
theorem aG.ne_file (h:aG w B r) (hf:f∈r.fs):f.blk≠r.d:=Blk.ne (h.files f hf).blk h.blk dcA
theorem aG.ne_map (h:aG w B r) {b:Nat} {cs:Array Value} {t:TypeId} (hb:Blk w b cs t):b≠r.m:=by
 rintro rfl;obtain ⟨D,⟨es,clock,h1,_⟩,_⟩:=h.map.ex;rw [hb] at h1;cases h1
theorem aG.ne_row (h:aG w B r) (hf:f∈r.fs) {x:Nat} (hx:bE f.a f.c=some x) {b:Nat} {cs:Array Value} {t:TypeId} (hb:Blk w b cs t) (ht:t≠5):x≠b:=by
 obtain ⟨_,_,cur,hcur⟩:=(h.files f hf).row.lt hx;exact Blk.ne hcur hb (Vf ht)
theorem aG.ne_plan (h:aG w B r) {ad:Addr} (ha:r.pa=some ad) {b:Nat} {cs:Array Value} {t:TypeId} (hb:Blk w b cs t) (ht:t≠130):ad.block≠b:=by
 obtain ⟨_,_,cur,hcur⟩:=h.plan.block_lt ha;exact Blk.ne hcur hb (Vf ht)
theorem Ii {α:Type} {R:α->α->Prop} {l:List α} (h:l.Pairwise R) (hs:∀a b,R a b->R b a) {a b:α} (ha:a∈l) (hb:b∈l) (hne:a≠b):R a b:=by
 induction l with
 |nil=>cases ha
 |cons x l ih=>
  rw [List.pairwise_cons] at h;rcases Ve.1 ha with rfl|ha'
  .rcases Ve.1 hb with rfl|hb'
   .exact (hne rfl).elim
   .exact h.1 b hb'
  .rcases Ve.1 hb with rfl|hb'
   .exact hs _ _ (h.1 a ha')
   .exact ih h.2 ha' hb'
theorem aG.apart' (h:aG w B r) {g:bJ} (hf:f∈r.fs) (hg:g∈r.fs) (hne:f.nm≠g.nm):f.blk≠g.blk/\∀x,bE f.a f.c=some x->bE g.a g.c≠some x:=
 Ii h.apart (fun a b hab=>⟨Vf hab.1,fun x hx e=>hab.2 x e hx⟩) hf hg (fun e=>hne (by rw [e]))
theorem ww (fs:List bJ):(fs.map (·.p)).map (·.name)=fs.map (·.nm):=by rw [WB];rfl
theorem aG.names (h:aG w B r):(r.fs.map (·.nm)).Nodup:=by
 have:=h.ok.names;rwa [show r.p.fs=r.fs.map (·.p) from rfl,ww] at this
theorem aG.same (h:aG w B r) {g:bJ} (hf:f∈r.fs) (hg:g∈r.fs) (he:f.nm=g.nm):f=g:=by
 have hn:=h.names;generalize r.fs=l at hf hg hn
 induction l with
 |nil=>cases hf
 |cons x l ih=>
  simp only [WY,XH] at hn;rcases Ve.1 hf with rfl|hf'
  .rcases Ve.1 hg with rfl|hg'
   .rfl
   .exact (hn.1 (he▸WX (f:=fun x:bJ=>x.nm) hg')).elim
  .rcases Ve.1 hg with rfl|hg'
   .exact (hn.1 (he▸WX (f:=fun x:bJ=>x.nm) hf')).elim
   .exact ih hf' hg' hn.2
theorem aG.head (h:aG w B r) (r2:aF) (hd:r2.d=r.d) (hm:r2.m=r.m) (hfs:r2.fs=r.fs) (hpa:r2.pa=r.pa) (hpc:r2.pc=r.pc) (hplan:r2.plan=r.plan) (hl:0<=r2.left/\r2.left<=9223372036854775807)
  (hb:Blk w' r.d (jf r2) 85) (ho:∀x,x≠r.d->w'.heap[x]? =w.heap[x]?):aG w' B r2:=by
 obtain ⟨d2,m2,fs2,down2,armed2,left2,pa2,pc2,plan2⟩:=r2;dsimp only at hd hm hfs hpa hpc hplan hl;subst hd hm hfs hpa hpc hplan;refine ⟨h.ged,h.gem,hb,h.map.keep (ho _ (Vf (h.ne_map h.blk))),fun f hf=>(h.files f hf).keep (ho _ (h.ne_file hf)) (fun x hx=>ho _ (h.ne_row hf hx h.blk dcA)),h.apart,
  h.plan.keepAt fun x hx=>ho _ (h.ne_plan hx h.blk dcA),⟨h.ok.names,h.ok.named,h.ok.sure,h.ok.size,h.ok.count,hl⟩⟩
theorem uU {r2:aF} (hd:r2.d=r.d) (hm:r2.m=r.m) (hfs:r2.fs=r.fs) (hpa:r2.pa=r.pa) {x:Nat} (hx:eM r2 x):eM r x:=by
 unfold eM at hx⊢;rw [hd,hm,hfs,hpa] at hx;exact hx
def nS (fs:List bJ) (nm:bz) (g:bJ->bJ):List bJ:=fs.map fun f=>if f.nm=nm then g f else f
theorem ph (fs:List bJ) (nm:bz) (g:bJ->bJ) (g':dx->dx) (hg:∀f∈fs,f.nm=nm->(g f).p=g' f.p):(nS fs nm g).map (·.p)=AN (fs.map (·.p)) nm g':=by
 unfold nS AN;rw [WB,WB];refine WS fun f hf=> ?_;simp only [Function.comp];by_cases e:f.nm=nm
 .rw [if_pos e,if_pos (show f.p.name=nm from e)];exact hg f hf e
 .rw [if_neg e,if_neg (show ¬f.p.name=nm from e)]
theorem ol {fs:List bJ} {nm:bz} {g:bJ->bJ} {x:bJ} (h:x∈nS fs nm g):∃f∈fs,(f.nm=nm/\x=g f)\/(f.nm≠nm/\x=f):=by
 obtain ⟨f,hf,rfl⟩:=VY.1 h;refine ⟨f,hf,?_⟩;by_cases e:f.nm=nm
 .exact .inl ⟨e,by rw [if_pos e]⟩
 .exact .inr ⟨e,by rw [if_neg e]⟩
theorem yX (fs:List bJ) (nm:bz) (g:bJ->bJ) (hg:∀f∈fs,(g f).nm=f.nm/\(g f).blk=f.blk):(nS fs nm g).map fT=fs.map fT:=by
 unfold nS;rw [WB];refine WS fun f hf=> ?_;simp only [Function.comp];by_cases e:f.nm=nm
 .rw [if_pos e];unfold fT;rw [(hg f hf).1,(hg f hf).2]
 .rw [if_neg e]
theorem aG.upd (h:aG w B r) (nm:bz) (G:bJ->bJ) (hG:∀f∈r.fs,(G f).nm=f.nm/\(G f).blk=f.blk)
  (hd:w'.heap[r.d]? =w.heap[r.d]?) (hm:w'.heap[r.m]? =w.heap[r.m]?) (hpl:∀x,r.pa=some x->w'.heap[x.block]? =w.heap[x.block]?)
  (hrest:∀f∈r.fs,f.nm≠nm->w'.heap[f.blk]? =w.heap[f.blk]?/\∀x,bE f.a f.c=some x->w'.heap[x]? =w.heap[x]?)
  (hf:∀f∈r.fs,f.nm=nm->jv w' B (G f)) (hap:∀f∈r.fs,f.nm=nm->∀g∈r.fs,g.nm≠nm->∀x,bE (G f).a (G f).c=some x->bE g.a g.c≠some x)
  (hok:dN (aF.p {r with fs:=nS r.fs nm G})):aG w' B {r with fs:=nS r.fs nm G}:=by
 have hfiles:∀f∈nS r.fs nm G,jv w' B f:=by
  intro x hx;obtain ⟨f,hf1,⟨e,rfl⟩|⟨e,rfl⟩⟩:=ol hx
  .exact hf f hf1 e
  .exact (h.files _ hf1).keep (hrest _ hf1 e).1 (hrest _ hf1 e).2
 refine ⟨h.ged,h.gem,hd.trans h.blk,?_,hfiles,?_,h.plan.keepAt hpl,hok⟩
 .show iP w' prog 9 Rp r.m ((nS r.fs nm G).map fT);rw [yX _ _ _ hG];exact h.map.keep hm
 .have hn:r.fs.Pairwise fun f g=>f.nm≠g.nm:=by
   have:=h.names;rw [List.Nodup,List.pairwise_map] at this;exact this
  show (nS r.fs nm G).Pairwise _;unfold nS;rw [List.pairwise_map];refine List.Pairwise.imp_of_mem ?_ (List.Pairwise.and hn h.apart);intro f g hf1 hg1 ⟨hne,hb,hr⟩;by_cases e:f.nm=nm
  .have e2:g.nm≠nm:=fun e2=>hne (e.trans e2.symm);rw [if_pos e,if_neg e2];exact ⟨by rw [(hG f hf1).2];exact hb,hap f hf1 e g hg1 e2⟩
  .by_cases e2:g.nm=nm
   .rw [if_neg e,if_pos e2];exact ⟨by rw [(hG g hg1).2];exact hb,fun x hx hx2=>hap g hg1 e2 f hf1 e x hx2 hx⟩
   .rw [if_neg e,if_neg e2];exact ⟨hb,hr⟩
end
theorem IM:Keyed prog 9:=string_keyed underlying9
theorem xr (w:World):(zeroValue 110).run prog w= .ok (.pointer none) w:=by kernel_rfl
theorem nu (fs:List bJ):(fs.map fT).map Prod.fst=fs.map fun f=>nW f.nm:=by rw [WB];rfl
section
variable {w w':World} {B:Nat} {r:aF} {nm:bz}
theorem aG.look (h:aG w B r) (hs:nm.size<=maxLen) {f:bJ} (hf:f∈r.fs) (hn:f.nm=nm):(Instr.lookup 83 (.map (some r.m)) (.string nm) false).run prog w= .ok (.pointer (some ⟨f.blk,0,none⟩)) w:=by
 obtain ⟨v,ps,hr,hv⟩:=h.map.look IM underlying83 (xr w) rfl (XX underlying9 hs) (d:= .lit (.int .i64 (f.blk:Int))) (VY.2 ⟨f,hf,by simp [fT,nW,hn]⟩);rw [hr,GP hv]
theorem aG.look_no (h:aG w B r) (hs:nm.size<=maxLen) (hn:∀f∈r.fs,f.nm≠nm):(Instr.lookup 83 (.map (some r.m)) (.string nm) false).run prog w= .ok (.pointer none) w:=by
 obtain ⟨v,ps,hr,hv⟩:=h.map.look_no IM underlying83 (xr w) rfl (XX underlying9 hs) (by
  rw [nu];intro hm;obtain ⟨f,hf,e⟩:=VY.1 hm;exact hn f hf (kt e))
 rw [hr,Ml hv]
theorem Ls (fs:List bJ) (nm:bz):(∃f∈fs,f.nm=nm/\(fs.map (·.p)).find? (fun f=>f.name=nm)=some f.p)\/((∀f∈fs,f.nm≠nm)/\(fs.map (·.p)).find? (fun f=>f.name=nm)=none):=by
 induction fs with
 |nil=>exact .inr ⟨skA,rfl⟩
 |cons x l ih=>
  by_cases e:x.nm=nm
  .exact .inl ⟨x,skA,e,by simp [bJ.p,e]⟩
  .rcases ih with ⟨f,hf,h1,h2⟩|⟨h1,h2⟩
   .refine .inl ⟨f,by simp [hf],h1,?_⟩;rw [WY,XL,Vd (show ¬x.p.name=nm from e)];exact h2
   .refine .inr ⟨?_,?_⟩
    .intro f hf;rcases Ve.1 hf with rfl|hf'
     .exact e
     .exact h1 f hf'
    .rw [WY,XL,Vd (show ¬x.p.name=nm from e)];exact h2
end
theorem pq (s:ByteArray):s.toList.isEmpty=decide (s.size=0):=by
 obtain ⟨⟨l⟩⟩:=s;rw [show (ByteArray.mk ⟨l⟩).toList=l from XQ l,show (ByteArray.mk ⟨l⟩).size=l.length from by simp [ByteArray.size]];cases l<;>simp
theorem mt (s:ByteArray) (w:World):Calls prog 60 #[.string s] w fun e w'=>e= .returned (.bool (cZ s))/\w'=w:=by
 have hk:cZ s=(!s.toList.isEmpty&&decide ((s.size:Int)<=40)):=by
  unfold cZ;rw [pq];by_cases h0:s.size=0
  .simp [h0]
  .simp [h0];omega
 rw [hk];clear hk;by_cases h0:s.toList.isEmpty=true
 .have h1:s.toList=[]:=List.isEmpty_iff.1 h0;rw [h0];go_enter func60,ntmps60;go_wp2_with fail
  all_goals first|(exact absurd h1 asA)|(go_ret;exact ⟨rfl,rfl⟩)
 .have h1:¬s.toList=[]:=fun e=>h0 (by rw [e];rfl);go_enter func60,ntmps60;go_wp2_with fail
  all_goals first|(exact absurd asA h1)|(go_ret;exact ⟨by simp [List.isEmpty_eq_false_iff.2 h1],rfl⟩)
theorem sV {w:World} {B:Nat} {r:aF} {nm:bz} (h:aG w B r) (hs:nm.size<=maxLen) (g:Nat) (lb:Array Value) (eg:∀args w,(callFunc g args).run prog w= .ok (.enter g args) w) (R:Int->World->Prop)
  (hdown:r.down=true->R 5 w) (hnone:r.down=false->(∀f∈r.fs,f.nm≠nm)->R 4 w)
  (hfound:∀f∈r.fs,f.nm=nm->r.down=false->Calls prog g (#[.pointer (some ⟨f.blk,0,none⟩)]++lb) w fun e w'=>∃v,e= .returned (.int .i64 v)/\R v w'):
  Calls prog 58 #[.pointer (some ⟨r.d,0,none⟩),.string nm,.func (.func g) #[] lb] w fun e w'=>∃v,e= .returned (.int .i64 v)/\R v w':=by
 have hb:=h.blk.rule;unfold jf at hb;cases hdn:r.down with
 |true=>
  rw [hdn] at hb;go_enter func58,ntmps58;go_wp2_with fail;go_ret;exact ⟨5,rfl,hdown hdn⟩
 |false=>
  rw [hdn] at hb;rcases Ls r.fs nm with ⟨f,hf,h1,_⟩|⟨h1,_⟩
  .have hl:=h.look hs hf h1;go_enter func58,ntmps58;go_wp2_with fail;refine (hfound f hf h1 hdn).mono ?_;rintro e w1 ⟨v,rfl,hR⟩;go_wp2_with fail;go_ret;exact ⟨v,rfl,hR⟩
  .have hl:=h.look_no hs h1;go_enter func58,ntmps58;go_wp2_with fail;go_ret;exact ⟨4,rfl,hnone hdn h1⟩
theorem jM {w:World} {ops:Array Oper} {rest:List Oper} {o:Oper} {a:Act} {Q:Exit->Act->World->Prop} (hg:o.guard=none) (it:Operand) (hop:o.op=Op.next it false) {M n:Nat} {l:List (Lit×DU)} {ys:List bJ}
  (hit:a.eval it= .pointer (some ⟨n,0,none⟩)) (h:vw w prog 9 Rp M n l (ys.map fT))
  (hDone:ys=[]->wpList prog ops Q rest (a.put o.dst (.tuple #[.bool false])) w)
  (hMore:∀f∈ys,∀w',vw w' prog 9 Rp M n l ((ys.filter fun g=>decide (g.nm≠f.nm)).map fT)->w'.rangeLeft M n<w.rangeLeft M n->w.grownBy w' (some n)->w'.heap.size=w.heap.size->
   (Instr.entry (.pointer (some ⟨n,0,none⟩))).run prog w'= .ok (.tuple #[.string f.nm,.pointer (some ⟨f.blk,0,none⟩)]) w'->wpList prog ops Q rest (a.put o.dst (.tuple #[.bool true,.string f.nm,.pointer (some ⟨f.blk,0,none⟩)])) w'):
  wpList prog ops Q (o::rest) a w:=by
 refine XO hg fun K' hK'=> ?_;unfold Oper.wp;rcases h.next IM o.type with ⟨h0,hrun⟩|⟨key,v,kl,d,ps,w',hkey,hm,hv,hrun,hgr,hlt,hgb,hsz,hen⟩
 .simp [execOp,hop,hit,hrun,Result.andThen];exact hK' _ _ (hDone (by simpa using h0))
 .obtain ⟨f,hf,he⟩:=VY.1 hm;obtain ⟨s,rfl,hs,_⟩:=Go.WideMaps.string_of_keyOf underlying9 hkey;have e1:nW f.nm=kl:=WG Prod.fst he;have e2:(DataW.lit (.int .i64 (f.blk:Int)):DU)=d:=WG Prod.snd he;obtain rfl:s=f.nm:=kt (by rw [e1,hs];rfl);rw [<-e2] at hv;obtain rfl:=GP hv;have e3:(ys.map fT).filter (fun x=> !cf kl x)=(ys.filter fun g=>decide (g.nm≠f.nm)).map fT:=by
   rw [List.filter_map];refine WG (List.map fT) ?_;refine List.filter_congr fun g _=> ?_;simp only [Function.comp,cf,fT,<-e1];by_cases e:g.nm=f.nm
   .rw [e,(cI (show WideAt.IsKeyLit (nW f.nm) by simp [nW,WideAt.IsKeyLit])).2 rfl];simp
   .have:Lit.sameKey (nW g.nm) (nW f.nm)=false:=by
     rw [Vq];intro e4;exact e (kt (VP e4))
    rw [this];simp [e]
  rw [e3] at hgr;simp [execOp,hop,hit,hrun,Result.andThen];exact hK' _ _ (hMore f hf w' hgr hlt hgb hsz hen)
theorem Gb:lR prog 130 2:=⟨⟨_,underlying130,rfl⟩,krA⟩
theorem mG (a b:ByteArray):(a.toList==b.toList)=decide (a=b):=by
 obtain ⟨⟨l⟩⟩:=a;obtain ⟨⟨m⟩⟩:=b;rw [show (ByteArray.mk ⟨l⟩).toList=l from XQ l,show (ByteArray.mk ⟨m⟩).toList=m from XQ m];rw [Wj,Xj,Vu];simp
theorem xU (bx:Nat) (nm:bz) (x:bz×Int) (w:World) (h:w.cell? ⟨bx,0,none⟩=some (.string nm)):
  Calls prog 75 #[.agg #[.string x.1,.int .i64 x.2],.pointer (some ⟨bx,0,none⟩)] w fun e w'=>e= .returned (.bool (decide (x.1=nm)))/\Below w.heap.size w w':=by
 have hlt:=VV w _ h;rw [<-mG];go_enter func75,ntmps75;have hc:(w.alloc (.cells #[.string x.1,.int .i64 x.2] 130)).cell? ⟨bx,0,none⟩=some (.string nm):=(by rw [((AT _ _).alloc (Lt _) _:Below w.heap.size w _).cell hlt];exact h);go_wp2_with fail;go_ret;exact ⟨rfl,(AT _ _).alloc (Lt _) _⟩
theorem KM:bu prog 47 130 2 24:=bu.mk (z:= .agg #[.string ByteArray.empty,.int .i64 0]) underlying47 krA rfl oA
def MA (w:World) (plan:eA) (nm:bz) (n:Nat) (f:Nat) (i:Value) (w':World):Prop:=
 ∃k:Nat,k+f=n/\i= .int .i64 (k:Int)/\(∀j (h:j<plan.length),j<k->plan[j].1≠nm)/\Below w.heap.size w w'
theorem Ct (a:Option Addr) (n c:Nat) (plan:eA) (bx:Nat) (nm:bz) (w:World) (h:w.cell? ⟨bx,0,none⟩=some (.string nm)) (hp:aw w a (plan.flatMap eu)) (hn:plan.length=n) (hm:n<=maxLen):
  Calls prog 74 #[.slice a n c,.func (.func 75) #[] #[.pointer (some ⟨bx,0,none⟩)]] w fun e w'=>
   ∃k:Int,e= .returned (.int .i64 k)/\Below w.heap.size w w'/\((k= -1/\∀x∈plan,x.1≠nm)\/∃(i:Nat) (hi:i<plan.length),k=(i:Int)/\plan[i].1=nm/\∀j (hj:j<plan.length),j<i->plan[j].1≠nm):=by
 have hlt:=VV w _ h;have HN:=Hd hn;clear hn;unfold maxLen at hm;go_enter func74,ntmps74;go_wp2_with fail;go_loopg [8] n (MA w plan nm n)
 case atStart=>exact ⟨0,oA,rfl,fun _ _ h=>by omega,AT _ _⟩
 case round=>
  obtain ⟨k,hk,rfl,hno,hb⟩:=hrel;by_cases hlt2:k<n
  .have hkl:k<plan.length:=(by rw [HN.out];exact hlt2);obtain ⟨b,o,rfl,hbl,hc⟩:=hp.elem (g:=eu) (sz:=2) (fun _=>rfl) oA k hkl;have HT:=Hd (show ∃x,plan[k]=x from ⟨_,rfl⟩);obtain ⟨x,hx⟩:=HT.out;clear HT;rw [hx] at hc;have hcw:∀j (hj:j<(eu x).length),wr.cell? ⟨b,o+k*2+j,none⟩=some (eu x)[j]:=fun j hj=>(by rw [hb.cell (show b<w.heap.size from hbl)];exact hc j hj);have HC:=Hd hcw;have hbx:wr.cell? ⟨bx,0,none⟩=some (.string nm):=(by rw [hb.cell hlt];exact h);clear hc hcw;by_cases he:x.1=nm
   .have HD:=Hd (show decide (x.1=nm)=true by simp [he]);have HE:=Hd he;clear he;go_wp2_with (first|refine eC rfl 130 Gb (.tmp 14) rfl rfl (v:= .agg #[.string x.1,.int .i64 x.2]) rfl HC.out rfl ?_|(go_at_call 75;have hpk:=xU bx nm x _ hbx;rw [HD.out] at hpk;refine hpk.mono ?_;rintro e w1 ⟨rfl,hb1⟩));go_ret;exact ⟨k,rfl,ae hb hb1,.inr ⟨k,hkl,rfl,by rw [hx];exact HE.out,hno⟩⟩
   .go_wp2_with (first|refine eC rfl 130 Gb (.tmp 14) rfl rfl (v:= .agg #[.string x.1,.int .i64 x.2]) rfl HC.out rfl ?_|(go_at_call 75;refine (xU bx nm x _ hbx).mono ?_;rintro e w1 ⟨rfl,hb1⟩));go_roundg (gk-1)
    case measure=>omega
    case rel=>
     refine ⟨k+1,oA,gnA,fun j hj hjk=> ?_,ae hb hb1⟩;by_cases e:j=k
     .subst e;rw [hx];exact he
     .exact hno j hj oA
  .have hkn:k=n:=oA;go_wp2_with fail;go_ret;refine ⟨-1,rfl,hb,.inl ⟨rfl,fun x hx=> ?_⟩⟩;obtain ⟨j,hj,rfl⟩:=List.mem_iff_getElem.1 hx;exact hno j hj (by rw [HN.out] at hj;omega)
end
section
open Go.RowKit
def EF (a:bq):Bool:=decide (a.op=0)&&(decide (a.side=0)&&(decide (a.place=0)&&(decide (a.target=0)&&decide (a.ids.length+a.pairs.length=0))))
def may1 (x:ao):Bool:=decide (0<=x.game)&&decide (0<=x.table)
def EN (x:ao):Bool:=decide (x.fmt.size<=40)&&(cZ x.n0&&(cZ x.n1&&(decide (x.d0.length<=60)&&(decide (x.d1.length<=60)&&(decide (x.dr.length<=256)&&EF x.act)))))
def DD (x:ao):Bool:=decide (x.kind=2)&&(decide (x.table=0)&&(decide (x.fmt.size=0)&&((decide (x.n0.size=0)&&decide (x.n1.size=0))&&decide (x.d0.length+x.d1.length+x.dr.length=0))))
def mK (x:ao) (k:Nat):Bool:=if k=0 then may1 x else if k=1 then (if x.kind=1 then EN x else true) else (if x.kind=1 then true else DD x)
def il (x:ao):Bool:=mK x 0&&mK x 1&&mK x 2
theorem bL (s:ByteArray) (w:World):Calls prog 92 #[.string s] w fun e w'=>e= .returned (.bool (cZ s))/\w'=w:=by
 have hk:cZ s=(!s.toList.isEmpty&&decide ((s.size:Int)<=40)):=by
  unfold cZ;rw [pq];by_cases h0:s.size=0
  .simp [h0]
  .simp [h0];omega
 rw [hk];clear hk;by_cases h0:s.toList.isEmpty=true
 .have h1:s.toList=[]:=List.isEmpty_iff.1 h0;rw [h0];go_enter func92,ntmps92;go_wp2_with fail
  all_goals first|(exact absurd h1 asA)|(go_ret;exact ⟨rfl,rfl⟩)
 .have h1:¬s.toList=[]:=fun e=>h0 (by rw [e];rfl);go_enter func92,ntmps92;go_wp2_with fail
  all_goals first|(exact absurd asA h1)|(go_ret;exact ⟨by simp [List.isEmpty_eq_false_iff.2 h1],rfl⟩)
theorem EO (b:Nat) (p:ao) (h:aW) (w:World) (hb:Blk w b (ak p h).toArray 40):Calls prog 90 #[.pointer (some ⟨b,0,none⟩)] w fun e w'=>e= .returned (.bool (mK p 0))/\w'=w:=by
 have c1:w.cell? ⟨b,1,none⟩=some (.int .i64 p.game):=hb.cell rfl;have c2:w.cell? ⟨b,2,none⟩=some (.int .i64 p.table):=hb.cell rfl;rw [show mK p 0=(decide (0<=p.game)&&decide (0<=p.table)) from rfl];clear hb;generalize p.game=g at*;generalize p.table=t at*;by_cases h1:0<=g
 .go_enter func90,ntmps90;go_wp2_with fail;go_ret;exact ⟨by simp [h1],rfl⟩
 .go_enter func90,ntmps90;go_wp2_with fail;go_ret;exact ⟨by rw [Vd (show ¬0<=g by omega),WV];rfl,rfl⟩
theorem Hl (w:World):(sizeOf 9).run prog w= .ok 1 w:=by
 have:(Tryz.prog.info? 9).map (fun i=>i.size)=some 1:=(by kernel_rfl);cases hq:Tryz.prog.info? 9 with
 |none=>simp [hq] at this
 |some i=>simp [hq] at this;simp [sizeOf,typeInfo,hq,this]
theorem Gu (a b c d:bz) (w:World):(binOp .eql 33 (.agg #[.string a,.string b]) (.agg #[.string c,.string d])).run prog w= .ok (.bool (a.toList==c.toList&&b.toList==d.toList)) w:=by
 have p1:∀(x y:bz) W,(part 9 #[.string x,.string y] 0).run prog W= .ok (.string x) W:=fun x y W=>(by simp [part,isAgg,Vw underlying9]);have p2:∀(x y:bz) W,(part 9 #[.string x,.string y] 1).run prog W= .ok (.string y) W:=fun x y W=>(by simp [part,isAgg,Vw underlying9]);have pe:∀(x y:bz) W,(Op.equalIn (9998+1) 9 (.string x) (.string y)).run prog W= .ok (x.toList==y.toList) W:=fun x y W=>run_equalIn_string W 9998 9 x y underlying9;rw [run_eql_struct,show (10000:Nat)=9998+2 from rfl,Op.equalIn];simp only [Wm,Vw underlying33,WT,Hl,Std.Legacy.Range.forIn_eq_forIn_range',Std.Legacy.Range.size,Nat.sub_zero,Xe,Nat.div_one];rw [show List.range' 0 2 1=[0,1] from rfl];simp only [List.forIn_cons,List.forIn_nil,Wm,Nat.zero_mul,Nat.one_mul,p1,p2,pe,WT];cases (a.toList==c.toList)
 .simp
 .have pe':∀(x y:bz) W,(Op.equalIn 9999 9 (.string x) (.string y)).run prog W= .ok (x.toList==y.toList) W:=pe;cases hq:(b.toList==d.toList)<;>simp [p2,pe',hq]
theorem pP (s:bz):(s.toList==([]:List UInt8))=decide (s.size=0):=by
 rw [<-pq];cases s.toList<;>rfl
theorem Fl (a b:bz) (w:World):(binOp .eql 33 (.agg #[.string a,.string b]) (.agg #[.string ⟨#[]⟩,.string ⟨#[]⟩])).run prog w= .ok (.bool (decide (a.size=0)&&decide (b.size=0))) w:=by
 rw [Gu,show (ByteArray.toList ⟨#[]⟩)=[] from XQ [],pP,pP]
theorem EL (b:Nat) (p:ao) (h:aW) (w:World) (hb:Blk w b (ak p h).toArray 40) (hd:dC w p h):Calls prog 93 #[.pointer (some ⟨b,0,none⟩)] w fun e w'=>e= .returned (.bool (mK p 2))/\Below w.heap.size w w':=by
 have a0:w.cell? ⟨b,0,none⟩=some (.int .i8 p.kind):=hb.cell rfl;have a2:w.cell? ⟨b,2,none⟩=some (.int .i64 p.table):=hb.cell rfl;have a3:w.cell? ⟨b,3,none⟩=some (.string p.fmt):=hb.cell rfl;have a4:w.cell? ⟨b,4,none⟩=some (.string p.n0):=hb.cell rfl;have a5:w.cell? ⟨b,5,none⟩=some (.string p.n1):=hb.cell rfl;have a6:w.cell? ⟨b,6,none⟩=some (.slice h.d0.a h.d0.n h.d0.c):=hb.cell rfl;have a7:w.cell? ⟨b,7,none⟩=some (.slice h.d1.a h.d1.n h.d1.c):=hb.cell rfl;have a8:w.cell? ⟨b,8,none⟩=some (.slice h.dr.a h.dr.n h.dr.c):=hb.cell rfl;have l0:=hd.d0.2.1;have l1:=hd.d1.2.1;have l2:=hd.dr.2.1;have z0:=hd.d0.2.2.2.2.1;have z1:=hd.d1.2.2.2.2.1;have z2:=hd.dr.2.2.2.2.1;obtain ⟨kind,game,table,fmt,n0,n1,d0,d1,dr,ac⟩:=p;obtain ⟨⟨q0a,q0,q0c⟩,⟨q1a,q1,q1c⟩,⟨q2a,q2,q2c⟩,ha⟩:=h;dsimp only at*;clear hb hd;by_cases hk:kind=1
 .subst hk;rw [show mK ⟨1,game,table,fmt,n0,n1,d0,d1,dr,ac⟩ 2=true from rfl];go_enter func93,ntmps93;go_wp2_with fail;go_ret;exact ⟨rfl,AT _ _⟩
 have k1:(kind==1)=false:=(by simpa using hk);rw [show mK ⟨kind,game,table,fmt,n0,n1,d0,d1,dr,ac⟩ 2=(decide (kind=2)&&(decide (table=0)&&(decide (fmt.size=0)&&((decide (n0.size=0)&&decide (n1.size=0))&&decide (q0+q1+q2=0))))) from by unfold mK DD;simp [hk,l0,l1,l2]];clear hk l0 l1 l2;have eqn:=fun W=>Fl n0 n1 W;generalize (decide (n0.size=0)&&decide (n1.size=0))=nn at*;by_cases g0:kind=2;rotate_left 1
 .have k2:(kind==2)=false:=(by simpa using g0);rw [Vd g0,WV];clear g0;go_enter func93,ntmps93;go_wp2_with fail;go_ret;exact ⟨rfl,AT _ _⟩
 subst g0;rw [VO rfl,Vr];by_cases g1:table=0;rotate_left 1
 .have k2:(table==0)=false:=(by simpa using g1);rw [Vd g1,WV];clear g1;go_enter func93,ntmps93;go_wp2_with fail;go_ret;exact ⟨rfl,AT _ _⟩
 subst g1;rw [VO rfl,Vr];by_cases g2:fmt.size=0;rotate_left 1
 .have k2:fmt.toList≠ []:=fun e=>g2 (by have:=pq fmt;rw [e] at this;simpa using this.symm);rw [Vd g2,WV];clear g2;go_enter func93,ntmps93;go_wp2_with fail;have k3:fmt.toList.isEmpty=false:=(by simpa using k2);go_ret;exact ⟨by simp [k3],AT _ _⟩
 have k2:fmt.toList=[]:=List.isEmpty_iff.1 (by rw [pq];simpa using g2);rw [VO g2,Vr];clear g2;cases nn with
 |false=>
  rw [WV];go_enter func93,ntmps93;go_wp2_with fail;go_ret;exact ⟨rfl,AT _ _⟩
 |true=>
 rw [Vr];have t11:IntKind.i64.wrap ((q0:Int)+(q1:Int))=(q0:Int)+(q1:Int):=(by rw [VZ];omega);have t12:IntKind.i64.wrap ((q0:Int)+(q1:Int)+(q2:Int))=(q0:Int)+(q1:Int)+(q2:Int):=(by rw [VZ];omega);have t13:((q0:Int)+(q1:Int)+(q2:Int)==0)=decide (q0+q1+q2=0):=by
  rw [Wj,Xj,Vu];omega
 clear z0 z1 z2;go_enter func93,ntmps93;go_wp2_with fail;have t14:(decide (q0=0)&&decide (q1=0)&&decide (q2=0))=decide (q0+q1+q2=0):=by
  rw [Wj];simp [and_assoc];try omega
 go_ret;exact ⟨by rw [<-t14];rfl,AT _ _⟩
end
end Go.Proofs.YtioigihakjlopaaGreat

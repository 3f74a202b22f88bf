import Derived.Test.YtioigihakjlopaaGreatVF41
namespace Go.Proofs.YtioigihakjlopaaGreat
open Go.Proofs.Tryz
set_option linter.unusedVariables false
set_option linter.unusedSimpArgs false
set_option maxHeartbeats 16000000
set_option maxRecDepth 100000
section
open Go.RowKit
theorem iO.cellR {w:World} {a:Option Addr} {n c:Nat} {l:List Int} (h:iO w a n c l) (k:Nat) (hk:k<l.length):∃b o,a=some ⟨b,o,none⟩/\w.cell? ⟨b,o+k,none⟩=some (.int .i64 l[k]):=by
 obtain ⟨b,o,e,hc⟩:=h.1 k (by simpa using hk);exact ⟨b,o,e,by simpa using hc⟩
def Av (w:World) (l m:List Int) (n:Nat) (f:Nat) (i:Value) (w':World):Prop:=
 ∃k:Nat,k+f=n/\i= .int .i64 (k:Int)/\l.take k=m.take k/\Below w.heap.size w w'
theorem iT (a b:Option Addr) (n c n' c':Nat) (l m:List Int) (w:World) (hl:iO w a n c l) (hm:iO w b n' c' m):
  Calls prog 96 #[.slice a n c,.slice b n' c'] w fun e w'=>e= .returned (.bool (decide (l=m)))/\Below w.heap.size w w':=by
 have HL:=Hd hl.2.1;have HM:=Hd hm.2.1;have hsm:=hl.2.2.2.2.1;by_cases hnn:n=n'
 .subst hnn;go_enter func96,ntmps96;go_wp2_with fail;go_loopg [5] n (Av w l m n)
  case atStart=>exact ⟨0,VS _,rfl,rfl,AT _ _⟩
  case round=>
   obtain ⟨k,hk,rfl,heq,hbw⟩:=hrel;have HQ:=Hd heq;clear heq;by_cases hlt:k<n
   .have t0:decide ((k:Int)<(n:Int))=true:=soA;have hkl:k<l.length:=(by rw [HL.out];exact hlt);have hkm:k<m.length:=(by rw [HM.out];exact hlt);obtain ⟨b1,o1,rfl,hc1⟩:=iO.cellR hl k hkl;obtain ⟨b2,o2,rfl,hc2⟩:=iO.cellR hm k hkm;have L1:∀W,Old wr.drew W->W.cell? ⟨b1,o1+k,none⟩=some (.int .i64 l[k]):=fun W h=>by
     rw [(ae (ae hbw (AT _ _).drew) h).cell (VV w _ hc1)];exact hc1
    have L2:∀W,Old wr.drew W->W.cell? ⟨b2,o2+k,none⟩=some (.int .i64 m[k]):=fun W h=>by
     rw [(ae (ae hbw (AT _ _).drew) h).cell (VV w _ hc2)];exact hc2
    clear hc1 hc2;have h1:=VW hkl;have h2:=VW hkm;have H1:=Hd h1;have H2:=Hd h2;have hdiff:l[k]≠m[k]->l≠m:=fun h e=>h (by subst e;rfl);have HD:=Hd hdiff;clear h1 h2 hdiff;generalize l[k]=x at*;generalize m[k]=y at*;by_cases hxy:x=y
    .subst hxy;go_wp2_with fail;refine aA (0::1::2::3::4::5::6::7::8::[]) krA krA cdA ?_
     repeat (first|refine lsA ?_|refine lqA ?_)
     refine bO ?_;go_wp2_with fail;go_roundg (gk-1)
     case measure=>omega
     case rel=>exact ⟨k+1,oA,gnA,by rw [H1.out,H2.out,HQ.out],ae hbw (AT _ _).drew⟩
    .have t1:(x !=y)=true:=(by simpa using hxy);have hne:=HD.out hxy;have HN:=Hd hne;have HX:=Hd hxy;clear hne hxy;go_wp2_with fail;refine aA (0::1::2::3::4::5::6::7::8::[]) krA krA cdA ?_
     repeat (first|refine lsA ?_|refine lqA ?_)
     refine bO ?_;go_wp2_with fail;go_ret;exact ⟨by rw [Vd HN.out];rfl,ae hbw (AT _ _).drew⟩
   .have t0:decide ((k:Int)<(n:Int))=false:=soA;go_wp2_with fail;go_ret;have e1:l.take k=l:=Vj (by rw [HL.out];omega);have e2:m.take k=m:=Vj (by rw [HM.out];omega);have:=HQ.out;rw [e1,e2] at this;exact ⟨by rw [VO this];rfl,hbw⟩
 .have hne:l≠m:=fun e=>hnn (by rw [<-HL.out,<-HM.out,e]);have t0:((n:Int) !=(n':Int))=true:=soA;go_enter func96,ntmps96;go_wp2_with fail;go_ret;exact ⟨by rw [Vd hne];rfl,AT _ _⟩
theorem PairsAt.elemR {w:World} {s:Sl} {l:List bK} (h:ju w s l) (k:Nat) (hk:k<l.length):
  ∃b o,s.a=some ⟨b,o,none⟩/\b<w.heap.size/\∀j (hj:j<l[k].cells.length),w.cell? ⟨b,o+k*2+j,none⟩=some l[k].cells[j]:=
 aw.elem (g:=bK.cells) (sz:=2) (fun _=>rfl) h.1 oA k hk
def SmA (w:World) (X n:Nat) (cs ds:Array Value) (l m:List bK) (f:Nat) (i:Value) (wr:World):Prop:=
 ∃k:Nat,k+f=n/\i= .int .i64 (k:Int)/\l.take k=m.take k/\Blk wr X cs 38/\Blk wr (X+1) ds 38/\Below w.heap.size w wr
theorem zm (p q:bq) (h g:dt) (w:World) (hp:eK w p h) (hq:eK w q g):
  Calls prog 97 #[bI p h,bI q g] w fun e w'=>e= .returned (.bool (decide (p=q)))/\Below w.heap.size w w':=by
 obtain ⟨op,side,place,target,ids,pairs⟩:=p;obtain ⟨op',side',place',target',ids',pairs'⟩:=q;obtain ⟨⟨ia,inn,ic⟩,⟨pa,pn,pc⟩⟩:=h;obtain ⟨⟨ja,jn,jc⟩,⟨qa,qn,qc⟩⟩:=g;have hi1:mI w ⟨ia,inn,ic⟩ ids:=hp.ids;have hi2:mI w ⟨ja,jn,jc⟩ ids':=hq.ids;have hp1:ju w ⟨pa,pn,pc⟩ pairs:=hp.pairs;have hp2:ju w ⟨qa,qn,qc⟩ pairs':=hq.pairs;clear hp hq;obtain ⟨R,hR⟩:=Le (decide ((⟨op,side,place,target,ids,pairs⟩:bq)=⟨op',side',place',target',ids',pairs'⟩));rw [<-hR];have e0:∃c,(op !=op')=c/\(c=true->R=false):=⟨_,rfl,fun h=>by rw [hR];refine Vd fun e=> ?_;cases e;simp at h⟩;have e1:∃c,(side !=side')=c/\(c=true->R=false):=⟨_,rfl,fun h=>by rw [hR];refine Vd fun e=> ?_;cases e;simp at h⟩;have e2:∃c,(place !=place')=c/\(c=true->R=false):=⟨_,rfl,fun h=>by rw [hR];refine Vd fun e=> ?_;cases e;simp at h⟩;have e3:∃c,(target !=target')=c/\(c=true->R=false):=⟨_,rfl,fun h=>by rw [hR];refine Vd fun e=> ?_;cases e;simp at h⟩;have e4:∃c,decide (ids=ids')=c/\(c=false->R=false):=⟨_,rfl,fun h=>by rw [hR];refine Vd fun e=> ?_;cases e;simp at h⟩;have e5:∃c,((pn:Int) !=(qn:Int))=c/\(c=true->R=false):=⟨_,rfl,fun h=>by
  rw [hR];refine Vd fun e=> ?_;cases e;have k1:pairs.length=pn:=hp1.2.1;have k2:pairs.length=qn:=hp2.2.1;rw [<-k1,<-k2] at h;simp at h⟩
 have e6:pn=qn->op=op'->side=side'->place=place'->target=target'->ids=ids'->(pairs=pairs'->R=true)/\(pairs≠pairs'->R=false):=fun _ h1 h2 h3 h4 h5=>by
  subst h1 h2 h3 h4 h5;rw [hR];exact ⟨fun e=>by subst e;simp,fun h=>Vd fun e=>h (by cases e;rfl)⟩
 clear hR;obtain ⟨c0,f0,n0⟩:=e0;obtain ⟨c1,f1,n1⟩:=e1;obtain ⟨c2,f2,n2⟩:=e2;obtain ⟨c3,f3,n3⟩:=e3;obtain ⟨c4,f4,n4⟩:=e4;obtain ⟨c5,f5,n5⟩:=e5;have N0:=Hd n0;have N1:=Hd n1;have N2:=Hd n2;have N3:=Hd n3;have N4:=Hd n4;have N5:=Hd n5;have E6:=Hd e6;have F4:=Hd f4;clear n0 n1 n2 n3 n4 n5 e6 f4;unfold bI;dsimp only;go_enter func97,ntmps97;go_upto_region 1 with (fail);have hb1:Below w.heap.size w ((w.alloc (.cells #[.int .i8 op,.int .i64 side,.int .i64 place,.int .i64 target,.slice ia inn ic,.slice pa pn pc] 38)).alloc (.cells #[.int .i8 op',.int .i64 side',.int .i64 place',.int .i64 target',.slice ja jn jc,.slice qa qn qc] 38)):=cL;have hz:=((AT _ w).alloc (Lt _) (.cells #[.int .i8 op,.int .i64 side,.int .i64 place,.int .i64 target,.slice ia inn ic,.slice pa pn pc] 38)).size;obtain ⟨X,hX⟩:=Le w.heap.size;refine af (fun W=>Blk W X #[.int .i8 op,.int .i64 side,.int .i64 place,.int .i64 target,.slice ia inn ic,.slice pa pn pc] 38/\Blk W (X+1) #[.int .i8 op',.int .i64 side',.int .i64 place',.int .i64 target',.slice ja jn jc,.slice qa qn qc] 38/\Below w.heap.size w W) ⟨by rw [hX];exact Blk.new2 _ _ _ _,by rw [hX];exact Blk.new2' _ _ _ _,hb1⟩ ?_;clear hb1 hz;rw [<-hX];have HX:=Hd hX;clear hX;rintro W1 ⟨bX,bY,hb1⟩;rw [HX.out] at hb1;have A:=bX.rule;have B:=bY.rule;go_wp2_with fail
 any_goals first|(have q:=N0.out asA;go_ret;exact ⟨by rw [q];rfl,hb1⟩)|(have q:=N1.out asA;go_ret;exact ⟨by rw [q];rfl,hb1⟩)|(have q:=N2.out asA;go_ret;exact ⟨by rw [q];rfl,hb1⟩)|(have q:=N3.out asA;go_ret;exact ⟨by rw [q];rfl,hb1⟩)
 refine (iT _ _ _ _ _ _ _ _ _ (hi1.old hb1) (hi2.old hb1)).mono ?_;rintro e W2 ⟨rfl,hb2⟩;rw [F4.out];have bX2:=bX.old hb2;have bY2:=bY.old hb2;have hb02:=ae hb1 hb2;have A2:=bX2.rule;have B2:=bY2.rule;clear A B bX bY hb1 hb2 hi1 hi2;go_wp2_with fail
 any_goals first|(have q:=N4.out (Vq.2 asA);go_ret;exact ⟨by rw [q];rfl,hb02⟩)|(have q:=N5.out asA;go_ret;exact ⟨by rw [q];rfl,hb02⟩)
 have k0:¬c0=true:=asA;have k1:¬c1=true:=asA;have k2:¬c2=true:=asA;have k3:¬c3=true:=asA;have k4:c4=true:=asA;have k5:c5=false:=asA;have q0:op=op':=(by rw [Vq.2 k0] at f0;simpa using f0);have q1:side=side':=(by rw [Vq.2 k1] at f1;simpa using f1);have q2:place=place':=(by rw [Vq.2 k2] at f2;simpa using f2);have q3:target=target':=(by rw [Vq.2 k3] at f3;simpa using f3);have q4:ids=ids':=(by have:=F4.out;rw [k4] at this;simpa using this);have q5:pn=qn:=by
  rw [k5] at f5;have:(pn:Int)=(qn:Int):=(by simpa using f5);omega
 obtain ⟨e1,e2⟩:=E6.out q5 q0 q1 q2 q3 q4;have E1:=Hd e1;have E2:=Hd e2;subst q5;have HL:=Hd hp1.2.1;have HM:=Hd hp2.2.1;have hsm:pn<=8796093021952:=hp1.2.2.2.2.1;subst k4 k5;clear k0 k1 k2 k3 f0 f1 f2 f3 f5 N0 N1 N2 N3 N4 N5 E6 F4 e1 e2 q0 q1 q2 q3 q4 A2 B2;go_loopg [5] pn (SmA w X pn #[.int .i8 op,.int .i64 side,.int .i64 place,.int .i64 target,.slice ia inn ic,.slice pa pn pc] #[.int .i8 op',.int .i64 side',.int .i64 place',.int .i64 target',.slice ja jn jc,.slice qa pn qc] pairs pairs')
 case atStart=>exact ⟨0,oA,rfl,rfl,bX2,bY2,hb02⟩
 case round=>
  clear bX2 bY2 hb02;obtain ⟨k,hf,rfl,heq,bX,bY,hbw⟩:=hrel;have HF:=Hd hf;have HQ:=Hd heq;clear hf heq;have A:=bX.rule;have B:=bY.rule;by_cases hlt:k<pn
  .have t0:decide ((k:Int)<(pn:Int))=true:=soA;have hkl:k<pairs.length:=(by have:=HL.out;simp at this;omega);have hkm:k<pairs'.length:=(by have:=HM.out;simp at this;omega);obtain ⟨b1,o1,hr1,hl1,hc1⟩:=PairsAt.elemR (hp1.old hbw) k hkl;obtain ⟨b2,o2,hr2,hl2,hc2⟩:=PairsAt.elemR (hp2.old hbw) k hkm;dsimp only at hr1 hr2;subst hr1 hr2;have L1:=Hd (show ∀W,Old wr.drew W->∀j (hj:j<pairs[k].cells.length),W.cell? ⟨b1,o1+k*2+j,none⟩=some pairs[k].cells[j] from fun W h j hj=>by
    rw [(ae (AT _ _).drew h).cell (show b1<wr.heap.size from hl1)];exact hc1 j hj)
   have L2:=Hd (show ∀W,Old wr.drew W->∀j (hj:j<pairs'[k].cells.length),W.cell? ⟨b2,o2+k*2+j,none⟩=some pairs'[k].cells[j] from fun W h j hj=>by
    rw [(ae (AT _ _).drew h).cell (show b2<wr.heap.size from hl2)];exact hc2 j hj)
   have HX:=Hd (show pairs.take (k+1)=pairs'.take (k+1)↔pairs[k]=pairs'[k] by
    rw [VW hkl,VW hkm,HQ.out];exact ⟨fun h=>(List.cons.inj (List.append_cancel_left h)).1,fun h=>by rw [h]⟩)
   have HD:=Hd (show ¬pairs[k]=pairs'[k]->pairs≠pairs' from fun hne e=>hne (by subst e;rfl));have LA:∀W,Old wr.drew W->∀i,W.cell? ⟨X,i,none⟩= #[.int .i8 op,.int .i64 side,.int .i64 place,.int .i64 target,.slice ia inn ic,Value.slice (some ⟨b1,o1,none⟩) pn pc][i]? :=fun W hW=>(bX.drew.old hW).rule;have LB:∀W,Old wr.drew W->∀i,W.cell? ⟨X+1,i,none⟩= #[.int .i8 op',.int .i64 side',.int .i64 place',.int .i64 target',.slice ja jn jc,Value.slice (some ⟨b2,o2,none⟩) pn qc][i]? :=fun W hW=>(bY.drew.old hW).rule;clear hc1 hc2;generalize pairs[k]=x at*;generalize pairs'[k]=y at*;by_cases hxy:x=y
   .have HXe:=Hd (HX.out.2 hxy);clear HX HD;subst hxy;go_upto_region 6 with fail;refine aA (0::1::2::3::4::5::6::7::8::9::10::[]) krA krA cdA ?_
    repeat (first|refine lsA ?_|refine lqA ?_)
    refine cS (v:=jz x) rfl rfl rfA (fun W hW=>aI 157 xz (.tmp 59) rfl rfl rfl (L1.out W hW) rfl) ?_;simp only [Act.put,sTA,List.set]
    repeat (first|refine lsA ?_|refine lqA ?_)
    refine cS (v:=jz x) rfl rfl rfA (fun W hW=>aI 157 xz (.tmp 64) rfl rfl rfl (L2.out W hW) rfl) ?_;simp only [Act.put,sTA,List.set];refine cS (v:= .bool false) rfl rfl rfA (fun W hW=>tp .neq 157 (.tmp 60) (.tmp 65) rfl rfl rfl krA ((uJ x x W).trans skA)) ?_;simp only [Act.put,sTA,List.set];refine bO ?_;clear LA LB;go_wp2_with fail;go_roundg (gk-1)
    case measure=>have:=HF.out;omega
    case rel=>exact ⟨k+1,by have:=HF.out;omega,gnA,HXe.out,bX.drew,bY.drew,hbw.drew⟩
   .have hne:=Hd (HD.out hxy);go_upto_region 6 with fail;refine aA (0::1::2::3::4::5::6::7::8::9::10::[]) krA krA cdA ?_
    repeat (first|refine lsA ?_|refine lqA ?_)
    refine cS (v:=jz x) rfl rfl rfA (fun W hW=>aI 157 xz (.tmp 59) rfl rfl rfl (L1.out W hW) rfl) ?_;simp only [Act.put,sTA,List.set]
    repeat (first|refine lsA ?_|refine lqA ?_)
    refine cS (v:=jz y) rfl rfl rfA (fun W hW=>aI 157 xz (.tmp 64) rfl rfl rfl (L2.out W hW) rfl) ?_;simp only [Act.put,sTA,List.set];refine cS (v:= .bool true) rfl rfl rfA (fun W hW=>tp .neq 157 (.tmp 60) (.tmp 65) rfl rfl rfl krA ((uJ x y W).trans (by simp [hxy]))) ?_;simp only [Act.put,sTA,List.set];refine bO ?_;clear LA LB;go_wp2_with fail;go_ret;exact ⟨by rw [E2.out hne.out];rfl,hbw.drew⟩
  .have t0:decide ((k:Int)<(pn:Int))=false:=soA;have he:=Hd (show pairs=pairs' by
    have:=HQ.out;have h1:=HL.out;have h2:=HM.out;simp only at h1 h2;rwa [Vj oA,Vj oA] at this)
   go_wp2_with fail;go_ret;exact ⟨by rw [E1.out he.out];rfl,hbw⟩
theorem Bq (p q:ao) (h g:aW) (w:World) (hp:dC w p h) (hq:dC w q g):
  Calls prog 34 #[dR p h,dR q g] w fun e w'=>e= .returned (.bool (Ec p q))/\Below w.heap.size w w':=by
 obtain ⟨R,hR⟩:=Le (Ec p q);rw [<-hR];rw [xL] at hR;have mk:∀(c:Bool) (P:Prop) [Decidable P],decide P=c->(p=q->P)->(c=false->R=false):=fun c P _ h1 h2 h3=>by
  rw [hR];refine Vd fun e=> ?_;rw [h3] at h1;exact absurd (h2 e) (of_decide_eq_false h1)
 have e0:∃c,(p.kind==q.kind)=c/\(c=false->R=false):=⟨_,rfl,mk _ (p.kind=q.kind) rfl fun e=>by rw [e]⟩;have e1:∃c,(p.game==q.game)=c/\(c=false->R=false):=⟨_,rfl,mk _ (p.game=q.game) rfl fun e=>by rw [e]⟩;have e2:∃c,(p.table==q.table)=c/\(c=false->R=false):=⟨_,rfl,mk _ (p.table=q.table) rfl fun e=>by rw [e]⟩;have e3:∃c,(p.fmt.toList==q.fmt.toList)=c/\(c=false->R=false):=⟨_,rfl,mk _ (p.fmt=q.fmt) (lB _ _).symm fun e=>by rw [e]⟩;have e4:∃c,(p.n0.toList==q.n0.toList&&p.n1.toList==q.n1.toList)=c/\(c=false->R=false):=⟨_,rfl,mk _ (p.n0=q.n0/\p.n1=q.n1) (by rw [lB,lB,Bool.decide_and]) fun e=>by rw [e];exact ⟨rfl,rfl⟩⟩;have e5:∃c,decide (p.d0=q.d0)=c/\(c=false->R=false):=⟨_,rfl,mk _ (p.d0=q.d0) rfl fun e=>by rw [e]⟩;have e6:∃c,decide (p.d1=q.d1)=c/\(c=false->R=false):=⟨_,rfl,mk _ (p.d1=q.d1) rfl fun e=>by rw [e]⟩;have e7:∃c,decide (p.dr=q.dr)=c/\(c=false->R=false):=⟨_,rfl,mk _ (p.dr=q.dr) rfl fun e=>by rw [e]⟩;have hall:p.kind=q.kind->p.game=q.game->p.table=q.table->p.fmt=q.fmt->p.n0=q.n0/\p.n1=q.n1->p.d0=q.d0->p.d1=q.d1->p.dr=q.dr->R=decide (p.act=q.act):=by
  intro h0 h1 h2 h3 h4 h5 h6 h7;rw [hR];obtain ⟨a0,a1,a2,a3,a4,a5,a6,a7,a8,a9⟩:=p;obtain ⟨b0,b1,b2,b3,b4,b5,b6,b7,b8,b9⟩:=q;obtain ⟨h4,h4'⟩:=h4;dsimp only at h0 h1 h2 h3 h4 h4' h5 h6 h7⊢;subst h0 h1 h2 h3 h4 h4' h5 h6 h7;rw [decide_eq_decide];simp
 clear hR mk;obtain ⟨c0,f0,n0⟩:=e0;obtain ⟨c1,f1,n1⟩:=e1;obtain ⟨c2,f2,n2⟩:=e2;obtain ⟨c3,f3,n3⟩:=e3;obtain ⟨c4,f4,n4⟩:=e4;obtain ⟨c5,f5,n5⟩:=e5;obtain ⟨c6,f6,n6⟩:=e6;obtain ⟨c7,f7,n7⟩:=e7;have tw:=fun W=>Gu p.n0 p.n1 q.n0 q.n1 W;simp only [f4] at tw;have N0:=Hd n0;have N1:=Hd n1;have N2:=Hd n2;have N3:=Hd n3;have N4:=Hd n4;have N5:=Hd n5;have N6:=Hd n6;have N7:=Hd n7;have F4:=Hd f4;have F5:=Hd f5;have F6:=Hd f6;have F7:=Hd f7;have HALL:=Hd hall;clear n0 n1 n2 n3 n4 n5 n6 n7 f4 f5 f6 f7 hall;unfold dR;go_enter func34,ntmps34;go_wp2_with fail
 any_goals first|(have q:=N0.out (Vq.2 asA);go_ret;exact ⟨by rw [q];rfl,cL⟩)|(have q:=N1.out (Vq.2 asA);go_ret;exact ⟨by rw [q];rfl,cL⟩)|(have q:=N2.out (Vq.2 asA);go_ret;exact ⟨by rw [q];rfl,cL⟩)|(have q:=N3.out (Vq.2 asA);go_ret;exact ⟨by rw [q];rfl,cL⟩)|(have q:=N4.out (Vq.2 asA);go_ret;exact ⟨by rw [q];rfl,cL⟩)|(have q:=N5.out (Vq.2 asA);go_ret;exact ⟨by rw [q];rfl,cL⟩)|(have q:=N6.out (Vq.2 asA);go_ret;exact ⟨by rw [q];rfl,cL⟩)|(have q:=N7.out (Vq.2 asA);go_ret;exact ⟨by rw [q];rfl,cL⟩)
 refine (iT _ _ _ _ _ _ _ _ _ (hp.d0.old cL) (hq.d0.old cL)).mono ?_;rintro e W2 ⟨rfl,hb2⟩;rw [F5.out];have bX:=(Blk.new2 _ _ _ _).old hb2;have bY:=(Blk.new2' _ _ _ _).old hb2;have hbw:Below w.heap.size w W2:=cL;obtain ⟨X,hX⟩:=Le w.heap.size;rw [<-hX] at bX bY⊢;clear hb2 hX;have A:=bX.rule;have B:=bY.rule;go_wp2_with fail
 any_goals first|(have q:=N0.out (Vq.2 asA);go_ret;exact ⟨by rw [q];rfl,hbw⟩)|(have q:=N1.out (Vq.2 asA);go_ret;exact ⟨by rw [q];rfl,hbw⟩)|(have q:=N2.out (Vq.2 asA);go_ret;exact ⟨by rw [q];rfl,hbw⟩)|(have q:=N3.out (Vq.2 asA);go_ret;exact ⟨by rw [q];rfl,hbw⟩)|(have q:=N4.out (Vq.2 asA);go_ret;exact ⟨by rw [q];rfl,hbw⟩)|(have q:=N5.out (Vq.2 asA);go_ret;exact ⟨by rw [q];rfl,hbw⟩)|(have q:=N6.out (Vq.2 asA);go_ret;exact ⟨by rw [q];rfl,hbw⟩)|(have q:=N7.out (Vq.2 asA);go_ret;exact ⟨by rw [q];rfl,hbw⟩)
 refine (iT _ _ _ _ _ _ _ _ _ (hp.d1.old hbw) (hq.d1.old hbw)).mono ?_;rintro e W3 ⟨rfl,hb3⟩;rw [F6.out];replace bX:=bX.old hb3;replace bY:=bY.old hb3;replace hbw:=ae hbw hb3;clear A B hb3;have A:=bX.rule;have B:=bY.rule;go_wp2_with fail
 any_goals first|(have q:=N0.out (Vq.2 asA);go_ret;exact ⟨by rw [q];rfl,hbw⟩)|(have q:=N1.out (Vq.2 asA);go_ret;exact ⟨by rw [q];rfl,hbw⟩)|(have q:=N2.out (Vq.2 asA);go_ret;exact ⟨by rw [q];rfl,hbw⟩)|(have q:=N3.out (Vq.2 asA);go_ret;exact ⟨by rw [q];rfl,hbw⟩)|(have q:=N4.out (Vq.2 asA);go_ret;exact ⟨by rw [q];rfl,hbw⟩)|(have q:=N5.out (Vq.2 asA);go_ret;exact ⟨by rw [q];rfl,hbw⟩)|(have q:=N6.out (Vq.2 asA);go_ret;exact ⟨by rw [q];rfl,hbw⟩)|(have q:=N7.out (Vq.2 asA);go_ret;exact ⟨by rw [q];rfl,hbw⟩)
 refine (iT _ _ _ _ _ _ _ _ _ (hp.dr.old hbw) (hq.dr.old hbw)).mono ?_;rintro e W4 ⟨rfl,hb4⟩;rw [F7.out];replace bX:=bX.old hb4;replace bY:=bY.old hb4;replace hbw:=ae hbw hb4;clear A B hb4;have A:=bX.rule;have B:=bY.rule;go_wp2_with fail
 any_goals first|(have q:=N0.out (Vq.2 asA);go_ret;exact ⟨by rw [q];rfl,hbw⟩)|(have q:=N1.out (Vq.2 asA);go_ret;exact ⟨by rw [q];rfl,hbw⟩)|(have q:=N2.out (Vq.2 asA);go_ret;exact ⟨by rw [q];rfl,hbw⟩)|(have q:=N3.out (Vq.2 asA);go_ret;exact ⟨by rw [q];rfl,hbw⟩)|(have q:=N4.out (Vq.2 asA);go_ret;exact ⟨by rw [q];rfl,hbw⟩)|(have q:=N5.out (Vq.2 asA);go_ret;exact ⟨by rw [q];rfl,hbw⟩)|(have q:=N6.out (Vq.2 asA);go_ret;exact ⟨by rw [q];rfl,hbw⟩)|(have q:=N7.out (Vq.2 asA);go_ret;exact ⟨by rw [q];rfl,hbw⟩)
 refine (zm p.act q.act h.act g.act _ (hp.act.old hbw) (hq.act.old hbw)).mono ?_;rintro e W5 ⟨rfl,hb5⟩;replace hbw:=ae hbw hb5;have k0:c0=true:=asA;have k1:c1=true:=asA;have k2:c2=true:=asA;have k3:c3=true:=asA;have k4:c4=true:=asA;have k5:c5=true:=asA;have k6:c6=true:=asA;have k7:c7=true:=asA;have q4:p.n0=q.n0/\p.n1=q.n1:=by
  have:=F4.out;rw [k4,lB,lB] at this;simpa using this
 have hres:=HALL.out (by rw [k0] at f0;simpa using f0) (by rw [k1] at f1;simpa using f1) (by rw [k2] at f2;simpa using f2) (by rw [k3,lB] at f3;simpa using f3) q4 (by have:=F5.out;rw [k5] at this;simpa using this) (by have:=F6.out;rw [k6] at this;simpa using this) (by have:=F7.out;rw [k7] at this;simpa using this);rw [<-hres];have HRES:=Hd hres;clear hres k0 k1 k2 k3 k4 k5 k6 k7 q4 f0 f1 f2 f3 A B;go_wp2_with fail;go_ret;exact ⟨rfl,hbw⟩
def aB (ds:List (ao×aW)):List ao:=ds.map Prod.fst
def SmD (w:World) (n:Nat) (ds es:List (ao×aW)) (f:Nat) (i:Value) (wr:World):Prop:=
 ∃k:Nat,k+f=n/\i= .int .i64 (k:Int)/\(aB ds).take k=(aB es).take k/\Below w.heap.size w wr
theorem nf {ds:List (ao×aW)} {k:Nat} (h:k<ds.length):(aB ds).take (k+1)=(aB ds).take k++ [(ds[k]).1]:=by
 rw [VW (by rw [aB,lmA];exact h)];simp [aB]
theorem zl (w:World) (a b:Option Addr) (n m c c':Nat) (ds es:List (ao×aW)) (h1:fB w a ds) (h2:fB w b es) (hn:ds.length=n) (hm:es.length=m) (hz:n<=1000000000) (hzm:m<=1000000000):
  Calls prog 73 #[.slice a n c,.slice b m c'] w fun e w'=>e= .returned (.bool (decide (aB ds=aB es)))/\Below w.heap.size w w':=by
 have HN:=Hd hn;have HM:=Hd hm;by_cases hnm:n=m
 .subst hnm;clear hn hm hzm;go_enter func73,ntmps73;go_wp2_with fail;go_loopg [5] n (SmD w n ds es)
  case atStart=>exact ⟨0,oA,rfl,rfl,AT _ _⟩
  case round=>
   obtain ⟨k,hf,rfl,htk,hbw⟩:=hrel;have HF:=Hd hf;have HT:=Hd htk;clear hf htk;by_cases hlt:k<n
   .have t0:decide ((k:Int)<(n:Int))=true:=soA;have hkl:k<ds.length:=(by rw [HN.out];exact hlt);have hkr:k<es.length:=(by rw [HM.out];exact hlt);obtain ⟨b1,o1,e1,hbl1,hc1⟩:=h1.elem k hkl;obtain ⟨b2,o2,e2,hbl2,hc2⟩:=h2.elem k hkr;subst e1 e2;have hd1:=((h1.each _ (VE hkl)).old hbw);have hd2:=((h2.each _ (VE hkr)).old hbw);have HX1:=Hd (nf hkl);have HX2:=Hd (nf hkr);generalize ds[k]=x at*;generalize es[k]=y at*;obtain ⟨p,h⟩:=x;obtain ⟨q,g⟩:=y;dsimp only at hc1 hc2 hd1 hd2;have HX:=Hd (show (aB ds).take (k+1)=(aB es).take (k+1)↔p=q by
     rw [HX1.out,HX2.out,HT.out];exact ⟨fun h=>(List.cons.inj (List.append_cancel_left h)).1,fun h=>by rw [h]⟩)
    have HD:=Hd (show ¬p=q->aB ds≠aB es from fun hne e=>hne (HX.out.1 (by rw [e])));have L1:=Hd (show ∀W,Old wr.drew W->∀j (hj:j<(ak p h).length),W.cell? ⟨b1,o1+k*15+j,none⟩=some (ak p h)[j] from fun W hW j hj=>by
     rw [(ae (ae hbw (AT _ _).drew) hW).cell (show b1<w.heap.size from hbl1)];exact hc1 j hj)
    have L2:=Hd (show ∀W,Old wr.drew W->∀j (hj:j<(ak q g).length),W.cell? ⟨b2,o2+k*15+j,none⟩=some (ak q g)[j] from fun W hW j hj=>by
     rw [(ae (ae hbw (AT _ _).drew) hW).cell (show b2<w.heap.size from hbl2)];exact hc2 j hj)
    clear hc1 hc2;have cc:=Bq p q h g wr.drew (hd1.old (AT _ _).drew) (hd2.old (AT _ _).drew);rw [aH,aH,xL] at cc;obtain ⟨s,hs⟩:=Le (decide (p=q));rw [<-hs] at cc;have HS:=Hd hs;clear hs;go_upto_region 6 with fail;refine aA (0::1::2::3::4::5::6::7::8::9::[]) krA krA cdA ?_
    repeat (first|refine lsA ?_|refine lqA ?_)
    refine cS (v:= .agg (ak p h).toArray) rfl rfl rfA (fun W hW=>aI 40 aZ (.tmp 19) rfl rfl rfl (L1.out W hW) rfl) ?_;simp only [Act.put,sTA,List.set]
    repeat (first|refine lsA ?_|refine lqA ?_)
    refine cS (v:= .agg (ak q g).toArray) rfl rfl rfA (fun W hW=>aI 40 aZ (.tmp 23) rfl rfl rfl (L2.out W hW) rfl) ?_;simp only [Act.put,sTA,List.set];refine bw rfl rfl rfA (fun K hK=> ?_);go_wp2_with fail;refine cc.mono ?_;rintro e w2 ⟨rfl,hb2⟩;go_wp2_with fail;refine hK _ _ hb2 ?_;clear hK K
    repeat (first|refine lsA ?_|refine lqA ?_)
    refine bO ?_;clear cc;have hbw2:Below w.heap.size w w2:=ae hbw.drew hb2;cases s with
    |true=>
     have HXe:=Hd (HX.out.2 (Xz HS.out.symm));go_wp2_with fail;go_roundg (gk-1)
     case measure=>have:=HF.out;omega
     case rel=>exact ⟨k+1,by have:=HF.out;omega,gnA,HXe.out,hbw2⟩
    |false=>
     have hne:=Hd (HD.out (of_decide_eq_false HS.out.symm));go_wp2_with fail;go_ret;exact ⟨by rw [Vd hne.out];rfl,hbw2⟩
   .have t0:decide ((k:Int)<(n:Int))=false:=soA;have he:=Hd (show aB ds=aB es by
     have:=HT.out;rwa [Vj (by rw [aB,lmA,HN.out];omega),Vj (by rw [aB,lmA,HM.out];omega)] at this)
    go_wp2_with fail;go_ret;exact ⟨by rw [VO he.out];rfl,hbw⟩
 .have hne:aB ds≠aB es:=fun e=>hnm (by have:=WG List.length e;rw [aB,aB,lmA,lmA] at this;omega);rw [Vd hne];have tn:((n:Int) !=(m:Int))=true:=soA;clear hn hm;go_enter func73,ntmps73;go_wp2_with fail;go_ret;exact ⟨rfl,AT _ _⟩
theorem zL (w:World) (a b:Option Addr) (n m c c':Nat) (ds es:List (ao×aW)) (h1:fB w a ds) (h2:fB w b es) (hn:ds.length=n) (hm:es.length=m) (hz:n<=1000000000) (hzm:m<=1000000000):
  Calls prog 23 #[.slice a n c,.slice b m c'] w fun e w'=>e= .returned (.bool (decide (aB ds=aB es)))/\Below w.heap.size w w':=by
 have cc:=zl w a b n m c c' ds es h1 h2 hn hm hz hzm;clear hn hm hz hzm;generalize decide (aB ds=aB es)=R at*;go_enter func23,ntmps23;go_wp2_with fail;refine cc.mono ?_;rintro e w2 ⟨rfl,hb2⟩;clear cc;go_wp2_with fail;go_ret;exact ⟨rfl,hb2⟩
theorem pX (w:World) (a b:Option Addr) (n m c c':Nat) (ds es:List (ao×aW)) (h1:fB w a ds) (h2:fB w b es) (hn:ds.length=n) (hm:es.length=m) (hz:n<=1000000000) (hzm:m<=1000000000) (hcm:m<=c'):
  Calls prog 20 #[.slice a n c,.slice b m c'] w fun e w'=>e= .returned (.bool (decide (aB ds=(aB es).take (aB ds).length)))/\Below w.heap.size w w':=by
 have hl:(aB ds).length=n:=(by rw [aB,lmA];exact hn);have hlm:(aB es).length=m:=(by rw [aB,lmA];exact hm);rw [hl];by_cases hnm:n<=m
 .have t0:decide ((n:Int)<=(m:Int))=true:=soA;have h2':fB w b (es.take n):=⟨by
   have:=h2.row.take (n*15);have e:(dv es).take (n*15)=dv (es.take n):=by
    have e2:dv es=dv (es.take n)++dv (es.drop n):=by
     unfold dv;rw [<-Ww,WW]
    rw [e2,XW (by rw [rF,ltA];omega),Vj (by rw [rF,ltA];omega)]
   rw [e] at this;exact this,fun x hx=>h2.each x (List.mem_of_mem_take hx)⟩
  have e3:(aB es).take n=aB (es.take n):=(by simp [aB,WE]);rw [e3];have cc:=fun W (hb:Below w.heap.size w W) c2=>zL W a b n n c c2 ds (es.take n) (h1.old hb) (h2'.old hb) hn (by rw [ltA];omega) hz hz;clear hn hm hz hzm hl hlm e3;generalize decide (aB ds=aB (es.take n))=R at*;go_enter func20,ntmps20;go_wp2_with fail;refine (cc _ (AT _ _) c').mono ?_;rintro e w2 ⟨rfl,hb2⟩;clear cc;go_wp2_with fail;go_ret;exact ⟨rfl,hb2⟩
 .have t0:decide ((n:Int)<=(m:Int))=false:=soA;have hne:aB ds≠(aB es).take n:=fun e=>by
   have:=WG List.length e;rw [ltA] at this;omega
  rw [Vd hne];clear hn hm hl hlm;go_enter func20,ntmps20;go_wp2_with fail;go_ret;exact ⟨rfl,AT _ _⟩
theorem vc {w:World} {a:Option Addr} {ds:List (ao×aW)} (h:aw w a (dv ds)) (k:Nat) (hk:k<ds.length):∃b o,a=some ⟨b,o,none⟩/\b<w.heap.size/\∀j (hj:j<(ak ds[k].1 ds[k].2).length),w.cell? ⟨b,o+k*15+j,none⟩=some (ak ds[k].1 ds[k].2)[j]:=
 aw.elem (g:=fun x:ao×aW=>ak x.1 x.2) (sz:=15) (fun _=>rfl) h oA k hk
def Gm27 (w:World) (n:Nat) (l:List ao) (f:Nat) (v3 v4:Value) (wr:World):Prop:=
 ∃k:Nat,k+f=n/\v4= .int .i64 (k:Int)/\v3= .int .i64 (aP (l.take k):Int)/\wr=w
theorem rl (w:World) (a:Option Addr) (n c:Nat) (ds:List (ao×aW)) (h:aw w a (dv ds)) (hn:ds.length=n) (hz:n<=1000000):
  Calls prog 39 #[.slice a n c] w fun e w'=>e= .returned (.int .i64 (aP (aB ds):Int))/\w'=w:=by
 have HN:=Hd hn;clear hn;go_enter func39,ntmps39;go_wp2_with fail;go_loopg [3,4] n (Gm27 w n (aB ds))
 case atStart=>exact ⟨0,oA,rfl,rfl,rfl⟩
 case round=>
  obtain ⟨k,hf,rfl,rfl,rfl⟩:=hrel;have HF:=Hd hf;clear hf;by_cases hk:k<n
  .have t0:decide ((k:Int)<(n:Int))=true:=soA;have hkl:k<ds.length:=(by rw [HN.out];exact hk);obtain ⟨b,o,rfl,hb,hc⟩:=vc h k hkl;have hc0:wr.cell? ⟨b,o+k*15,none⟩=some (.int .i8 (ds[k]).1.kind):=hc 0 (show 0<15 by omega);have HT:=Hd (show (aB ds).take (k+1)=(aB ds).take k++ [(ds[k]).1] from nf hkl);obtain ⟨p,hp⟩:=Le ((ds[k]).1);rw [<-hp] at HT;rw [<-hp] at hc0;have hgl:aP ((aB ds).take k)<=n:=At (pY _) (by rw [ltA];omega);clear hc hp;have HG:=Hd (show aP ((aB ds).take (k+1))=aP ((aB ds).take k)+(if p.kind=1 then 1 else 0) by rw [HT.out,iI]);generalize aP ((aB ds).take k)=gn at*;by_cases h1:p.kind=1
   .have t1:(p.kind==1)=true:=(by simpa using h1);have i1:IntKind.i64.wrap ((gn:Int)+1)=((gn+1:Nat):Int):=(by rw [VZ];omega);have HG2:=Hd (show aP ((aB ds).take (k+1))=gn+1 by rw [HG.out,if_pos h1]);clear h1;go_wp2_with fail;go_roundg (gk-1)
    case rel=>exact ⟨k+1,by have:=HF.out;omega,gnA,by rw [HG2.out];first|rfl|(congr 1;omega),rfl⟩
    case measure=>have:=HF.out;omega
   .have t1:(p.kind==1)=false:=(by simpa using h1);have HG2:=Hd (show aP ((aB ds).take (k+1))=gn by rw [HG.out,if_neg h1];rfl);clear h1;go_wp2_with fail;go_roundg (gk-1)
    case rel=>exact ⟨k+1,by have:=HF.out;omega,gnA,by rw [HG2.out],rfl⟩
    case measure=>have:=HF.out;omega
  .have t0:decide ((k:Int)<(n:Int))=false:=soA;have HA:=Hd (show (aB ds).take k=aB ds from Vj (by rw [aB,lmA,HN.out];omega));go_wp2_with fail;go_ret;exact ⟨by rw [HA.out];rfl,rfl⟩
def uB (ds:List (ao×aW)) (g:Int):List (ao×aW):=ds.filter fun x=>decide (x.1.game=g)
theorem zG (ds:List (ao×aW)) (g:Int):aB (uB ds g)=ofG (aB ds) g:=by
 unfold aB uB ofG;rw [List.filter_map];rfl
theorem yg (ds:List (ao×aW)) (g:Int):(uB ds g).length=(ofG (aB ds) g).length:=by
 rw [<-zG,aB,lmA]
def OfR (w:World) (n:Nat) (ds:List (ao×aW)) (g:Int) (f:Nat) (v5 v6:Value) (wr:World):Prop:=
 ∃(k:Nat) (a:Option Addr) (c m:Nat),k+f=n/\v6= .int .i64 (k:Int)/\(uB (ds.take k) g).length=m/\v5= .slice a m c/\Own wr w.heap.size 40 15 a m c (dv (uB (ds.take k) g))/\Below w.heap.size w wr
theorem Bs (w:World) (a:Option Addr) (n c:Nat) (ds:List (ao×aW)) (g:Int) (h:aw w a (dv ds)) (hn:ds.length=n) (hz:n<=1000000):
  Calls prog 38 #[.slice a n c,.int .i64 g] w fun e w'=>∃a' c',e= .returned (.slice a' (uB ds g).length c')/\Own w' w.heap.size 40 15 a' (uB ds g).length c' (dv (uB ds g))/\Below w.heap.size w w':=by
 have HN:=Hd hn;clear hn;go_enter func38,ntmps38;go_wp2_with fail;go_loopg [5,6] n (OfR w n ds g)
 case atStart=>exact ⟨0,none,0,0,oA,rfl,rfl,rfl,Own.nil _ _ _ _,AT _ _⟩
 case round=>
  obtain ⟨k,a',c',m,hf,rfl,hm,rfl,ho,hb⟩:=hrel;have HF:=Hd hf;have hmz:m<=n:=by
   rw [<-hm];exact At (List.length_filter_le _ _) (by rw [ltA];omega)
  have HM:=Hd hm;clear hf hm;by_cases hk:k<n
  .have t0:decide ((k:Int)<(n:Int))=true:=soA;have hkl:k<ds.length:=(by rw [HN.out];exact hk);obtain ⟨b,o,rfl,hbl,hc⟩:=vc h k hkl;have hc0:w.cell? ⟨b,o+k*15+1,none⟩=some (.int .i64 (ds[k]).1.game):=hc 1 (show 1<15 by omega);have HT:=Hd (show uB (ds.take (k+1)) g=uB (ds.take k) g++(if (ds[k]).1.game=g then [ds[k]] else []) by
    rw [VW hkl];unfold uB;rw [List.filter_append];by_cases e:(ds[k]).1.game=g<;>simp [e])
   generalize ds[k]=x at*;obtain ⟨p,q⟩:=x;dsimp only at hc hc0 HT;rw [<-hb.cell (p:=⟨b,o+k*15+1,none⟩) hbl] at hc0;have hcw:∀j (hj:j<(ak p q).length),wr.cell? ⟨b,o+k*15+j,none⟩=some (ak p q)[j]:=fun j hj=>(by rw [hb.cell (p:=⟨b,o+k*15+j,none⟩) hbl];exact hc j hj);clear hc;by_cases h1:p.game=g
   .have t1:(p.game==g)=true:=(by simpa using h1);have HT2:=Hd (show uB (ds.take (k+1)) g=uB (ds.take k) g++ [(p,q)] by rw [HT.out,if_pos h1]);have hl15:(ak p q).length=15:=rfl;have hz:=hb.size;clear h1 HT;go_wp2_with (first|refine eC rfl 40 aZ _ rfl rfl rfl hcw rfl ?_|(at_builtin;rw [kx];refine al rfl _ _ 23 rfl vd rfl (ho.alloc _) rfl (aw.new' wr (ak p q).toArray 40 _ rfl) rfA (by exact dg _ rfl) mxA oA soA ?_));intro a3 c3 W3 hr3 hg3;have hb3:Below w.heap.size w W3:=(ho.alloc _).grown (hb.alloc hb.size _) (Lt _) hg3 soA;have HL:=Hd (show (uB (ds.take (k+1)) g).length=m+1 by rw [HT2.out,laA,HM.out];rfl);have hr4:Own W3 w.heap.size 40 15 a3 (m+1) c3 (dv (uB (ds.take (k+1)) g)):=by
     rw [HT2.out,lM];exact hr3
    clear hr3 hg3 hcw hc0 ho;go_wp2_with fail;go_roundg (gk-1)
    case rel=>exact ⟨k+1,a3,c3,m+1,by have:=HF.out;omega,gnA,HL.out,rfl,hr4,hb3⟩
    case measure=>have:=HF.out;omega
   .have t1:(p.game==g)=false:=(by simpa using h1);have HT2:=Hd (show uB (ds.take (k+1)) g=uB (ds.take k) g by rw [HT.out,if_neg h1,Wq]);clear h1 HT hcw;go_wp2_with fail;go_roundg (gk-1)
    case rel=>exact ⟨k+1,a',c',m,by have:=HF.out;omega,gnA,by rw [HT2.out];exact HM.out,rfl,by rw [HT2.out];exact ho,hb⟩
    case measure=>have:=HF.out;omega
  .have t0:decide ((k:Int)<(n:Int))=false:=soA;have HA:=Hd (show ds.take k=ds from Vj (by rw [HN.out];omega));have hm2:=HM.out;rw [HA.out] at hm2 ho;have HM2:=Hd hm2;clear hm2;go_wp2_with fail;go_ret;rw [HM2.out];exact ⟨a',c',rfl,ho,hb⟩
theorem ul (w:World) (a:Option Addr) (n c:Nat) (ds:List (ao×aW)) (p:ao) (g:aW) (h:aw w a (dv ds)) (hn:ds.length=n) (hz:n<=1000000):
  Calls prog 131 #[.slice a n c,dR p g] w fun e w'=>e= .returned (.bool (bp (aB ds) p))/\Below w.heap.size w w':=by
 rw [aH];obtain ⟨R,hR⟩:=Le (bp (aB ds) p);rw [<-hR];have HR:=Hd hR;clear hR;go_enter func131,ntmps131;go_upto_region 1 with (fail);obtain ⟨X,hX⟩:=Le w.heap.size;rw [<-hX];refine af (fun W=>Blk W X (ak p g).toArray 40/\Below w.heap.size w W) ⟨by subst hX;exact Blk.new w _ _,by subst hX;exact cL⟩ ?_;rintro W1 ⟨bX,hbw⟩;clear hX;have A:=bX.rule;unfold ak at A;have L0:∀W,Old W1.drew W->W.cell? ⟨X,1,none⟩=some (.int .i64 p.game):=fun W hW=>(bX.drew.old hW).cell rfl;have cb:=rl W1.drew a n c ds ((h.below hbw).below (AT _ _).drew) hn hz;generalize hgn:aP (aB ds)=gn at*;by_cases h1:p.kind=1
 .have hr:R=(p.game==(gn:Int)):=by
   rw [HR.out];unfold bp;rw [if_pos h1,hgn];rfl
  have HRR:=Hd hr;have t1:(p.kind==1)=true:=(by simpa using h1);clear h1 hr HR;go_upto_region 2 with (fail);clear A;refine aA (0::1::2::3::4::5::[]) krA krA cdA ?_
  repeat (first|refine lsA ?_|refine lqA ?_)
  refine bw rfl rfl rfA (fun K hK=> ?_);go_wp2_with fail;refine cb.mono ?_;rintro e w2 ⟨rfl,rfl⟩;go_wp2_with fail;refine hK _ _ (AT _ _) ?_;clear hK K
  repeat (first|refine lsA ?_|refine lqA ?_)
  refine bO ?_;go_wp2_with fail;go_ret;exact ⟨by rw [HRR.out];rfl,hbw.drew⟩
 .have hr:R=(decide (0<=p.game)&&decide (p.game<(gn:Int))):=by
   rw [HR.out];unfold bp;rw [if_neg h1,hgn]
  have t1:(p.kind==1)=false:=(by simpa using h1);clear h1;by_cases h2:0<=p.game
  .have t2:decide (0<=p.game)=true:=(by simpa using h2);rw [t2,Vr] at hr;have HRR:=Hd hr;clear hr h2 HR;go_upto_region 3 with (fail);clear A;refine aA (0::1::2::3::4::5::6::7::8::9::10::[]) krA krA cdA ?_
   repeat (first|refine lsA ?_|refine lqA ?_)
   refine bw rfl rfl rfA (fun K hK=> ?_);go_wp2_with fail;refine cb.mono ?_;rintro e w2 ⟨rfl,rfl⟩;go_wp2_with fail;refine hK _ _ (AT _ _) ?_;clear hK K
   repeat (first|refine lsA ?_|refine lqA ?_)
   refine bO ?_;go_wp2_with fail;go_ret;exact ⟨by rw [HRR.out];rfl,hbw.drew⟩
  .have t2:decide (0<=p.game)=false:=(by simpa using h2);rw [t2,WV] at hr;have HRR:=Hd hr;clear hr h2 HR;go_upto_region 3 with (fail);clear A;refine aA (0::1::2::3::4::5::6::7::8::9::10::[]) krA krA cdA ?_
   repeat (first|refine lsA ?_|refine lqA ?_)
   refine bO ?_;go_wp2_with fail;go_ret;exact ⟨by rw [HRR.out];rfl,hbw.drew⟩
end
end Go.Proofs.YtioigihakjlopaaGreat

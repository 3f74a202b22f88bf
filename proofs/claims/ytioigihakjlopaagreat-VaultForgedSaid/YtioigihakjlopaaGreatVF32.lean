import Derived.Test.YtioigihakjlopaaGreatVF31
import Derived.RangeFuncNested
import Derived.RangeFuncBound
import Derived.RangeFuncCalls
import Derived.RangeFuncLeaves
import Derived.Below
import Derived.OrdersIn
import Derived.Sort.QuietIn
import Derived.Sort.CutIn
import Derived.OwnWalkIn
import Derived.TacticsInMore
import Derived.LoopNIn
import Derived.LoopIn
namespace Go.Proofs.YtioigihakjlopaaGreat
open Go.Proofs.Tryz
set_option linter.unusedVariables false
set_option linter.unusedSimpArgs false
set_option maxHeartbeats 16000000
set_option maxRecDepth 100000
section
open Go.RowKit Go.Maps
def GM (B d:Nat) (w:World) (V:aV) (load:List UInt8) (e:Ending) (w':World):Prop:=∃(hx:aW) (bl:List (Nat×Nat)),e= .returned (.tuple #[dR (br V.m V.l load).1 hx,.bool (br V.m V.l load).2])/\aX w' w.heap.size (br V.m V.l load).1 hx/\ij B d w V w' {V with bl:=bl}/\aJ (fun x=>x=V.mb) w w'
section
variable {w w':World} {B d:Nat} {V:aV}
theorem ah.notMap {a:Option Addr} {l:List UInt8} (h:ah w a l) {P:Program} {k:TypeId} {R:Value->Option (DU×List MemPlace)} {M:Nat} {es:List (Lit×DU)} (hm:iP w P k R M es) (ht:aJ (fun x=>x=M) w w'):ah w' a l:=by
 intro i hi;obtain ⟨b,o,e,hc⟩:=h i hi;refine ⟨b,o,e,?_⟩;have hlt:=VV w _ hc;rw [VJ (a:=⟨b,o+i,none⟩) (ht.block b hlt ?_)]
 .exact hc
 .rintro rfl;obtain ⟨es,clock,hb⟩:=hm.obj;simp [World.cell?,hb] at hc
theorem aJ.undrew' {F:Nat->Prop} {a b:World} (h:aJ F a.drew b):aJ F a b:=⟨h.os,h.tape,h.output,h.size,h.block⟩
theorem ij.ext {w3 w4:World} {V3:aV} {X:Nat} (hv:ij B d w V w3 V3) (h:aR w B d V) (ht:aJ (fun x=>x=X) w3 w4) (hX:w.heap.size<=X) (hXn:¬dW V3 X):ij B d w V w4 V3:=by
 refine ⟨hv.turn.trans ht fun k hk=> .inr (hk▸hX),hv.at'.keep fun x hx=>ht.block x (hv.at'.lt hx).2 fun e=> ?_,hv.foot',hv.R,hv.v,hv.m,hv.down⟩;subst e;rcases hx with hx|hx
 .rw [hv.R] at hx;have:=(h.log.lt hx).2;omega
 .exact hXn hx
theorem aR.rowLook (h:aR w B d V) {g:Nat} (hg:g<=4096):∃(sa:Option Addr) (sc:Nat),∀W,W.heap[V.mg]? =w.heap[V.mg]?->(Instr.lookup 90 (.map (some V.mg)) (.int .i64 (g:Int)) false).run prog W= .ok (.slice sa (ofG V.l (g:Int)).length sc) W:=by
 by_cases hgl:g<aP V.l
 .refine ⟨some ⟨V.f g,0,none⟩,V.fc g,fun W hW=> ?_⟩;have hk:=rA (n:=g) oA;obtain ⟨v,ps,hr,hv⟩:=(h.gm.keep hW).look uO underlying90 (rU W) (show Rs (.slice none 0 0)=some (.agg [],[]) from rfl) hk (mC hgl);rw [hr,GO hv,gU]
 .rw [h.good.none (g:=(g:Int)) oA];refine ⟨none,0,fun W hW=> ?_⟩;have hk:=rA (n:=g) oA;obtain ⟨v,ps,hr,hv⟩:=(h.gm.keep hW).look_no uO underlying90 (rU W) (show Rs (.slice none 0 0)=some (.agg [],[]) from rfl) hk (tu oA);rw [hr,Dr hv];rfl
theorem ux (m:List UInt8) (g n:Nat) (b:List UInt8):(fl m g n b).1.length<=b.length:=by
 unfold fl;split
 .dsimp only;rw [eX,ltA];omega
 .simp
end
theorem vB (w:World) (B d:Nat) (V:aV) (h:aR w B d V) (hB:B<=w.heap.size) (a:Option Addr) (n c:Nat) (load:List UInt8) (hl:ah w a load) (hn:load.length=n) (hc:n<=c) (hm:n<=65536):
  Calls prog 50 #[.pointer (some ⟨V.v,0,none⟩),.slice a n c] w (GM B d w V load):=by
 obtain ⟨S,hS⟩:=Le (GM B d w V load);rw [<-hS];have HS:=Hd hS;clear hS;go_enter func50,ntmps50;go_upto_region 2 with (fail);obtain ⟨X,hX⟩:=Le w.heap.size;rw [<-hX];refine af (fun W=>Blk W X bR 40/\qv W w.heap.size (X+1) ⟨load,false⟩ a n c/\Below w.heap.size w W) ⟨by subst hX;exact Blk.new2 w _ _ _,?_,by subst hX;exact cL⟩ ?_
 .exact ⟨by subst hX;exact Blk.new2' w _ _ _,(hl.alloc _).alloc _,hn,hc,oA,hl.inB hn⟩
 rintro W1 ⟨bX,hcur,hbw⟩;have hXw:w.heap.size<=X:=VR hX.symm;clear hX;obtain ⟨C,hC⟩:=Le (X+1);rw [<-hC] at hcur⊢;have hXC:X≠C:=oA;have hCw:w.heap.size<=C:=oA;clear hC;go_wp2_with fail;refine (fN w.heap.size C _ a n c _ hcur).mono ?_;rintro e W2 ⟨a2,n2,c2,rfl,hc2,ht2⟩;have bX2:Blk W2 X bR 40:=(ht2.block X bX.lt hXC).trans bX;have hbw2:Below w.heap.size w W2:=hbw.trans (ht2.below (fun x hx=>by omega) hbw.size);have h2:=h.old hbw2;have hlen2:(be ⟨load,false⟩).2.b.length<=65536:=by
  have:=fK ⟨load,false⟩;dsimp only at this;omega
 have hwf:=jd ⟨load,false⟩;obtain ⟨U,hU⟩:=Le (br V.m V.l load);have hU2:=hU;unfold br at hU2;dsimp only at hU2;generalize (be ⟨load,false⟩).1=gm at*;generalize (be ⟨load,false⟩).2=s2 at*;have HU:=Hd hU2;have HU0:=Hd hU;clear hU hU2 hcur ht2 bX hbw;have cb:W2.cell? ⟨C,1,none⟩=some (.bool s2.bad):=hc2.cur.cell rfl;have hs:=h2.blk.rule;unfold aQ at hs;have hsz:=h2.size;have bad:(s2.bad=true\/gm<0\/(aP V.l:Int)<gm)->U=(jY,false):=fun e=>(by rw [HU.out,if_pos e]);have good:¬(s2.bad=true\/gm<0\/(aP V.l:Int)<gm)->U=(if (fl V.m gm.toNat (ofG V.l gm).length s2.b).2≠0 then (jY,false) else ((fY (fl V.m gm.toNat (ofG V.l gm).length s2.b).1).1,decide ((fY (fl V.m gm.toNat (ofG V.l gm).length s2.b).1).2=0/\(fY (fl V.m gm.toNat (ofG V.l gm).length s2.b).1).1.game=gm)&&bp V.l (fY (fl V.m gm.toNat (ofG V.l gm).length s2.b).1).1)):=fun e=>(by rw [HU.out,if_neg e]);have HB:=Hd bad;have HG:=Hd good;clear bad good HU;have early:∀W,U=(jY,false)->Blk W X bR 40->(bl:List (Nat×Nat))->ij B d w V W {V with bl:=bl}->aJ (fun x=>x=V.mb) w W->GM B d w V load (.returned (.tuple #[.agg bR,.bool false])) (W.setRow X bR):=fun W hU hb bl hv ht=>by
  unfold GM;rw [<-HU0.out,hU,hb.setRow_self];exact ⟨dI,bl,rfl,dV _ _,hv,ht⟩
 cases hsb:s2.bad with
 |true=>
  rw [hsb] at cb;have hu:=HB.out (.inl hsb);have hend:=early W2 hu bX2 V.bl (ij.old h hbw2) (aJ.of_below hbw2);clear hsz;go_wp2_with (first|refine am rfl 40 aZ (.tmp 4) rfl rfl bX2 rfl ?_|refine aa rfl 40 aZ (.tmp 4) _ rfl rfl rfl bX2 rfl rfl rfA ?_);refine aU rfl aZ rfl (bX2.setRow _) rfl rfl rfl ?_;rw [HS.out];exact hend
 |false=>
  rw [hsb] at cb;by_cases h0:gm<0
  .have hu:=HB.out (.inr (.inl h0));have hend:=early W2 hu bX2 V.bl (ij.old h hbw2) (aJ.of_below hbw2);have t0:decide (gm<0)=true:=VO h0;clear hsz;go_wp2_with (first|refine am rfl 40 aZ (.tmp 4) rfl rfl bX2 rfl ?_|refine aa rfl 40 aZ (.tmp 4) _ rfl rfl rfl bX2 rfl rfl rfA ?_);refine aU rfl aZ rfl (bX2.setRow _) rfl rfl rfl ?_;rw [HS.out];exact hend
  have t0:decide (gm<0)=false:=Vd h0;by_cases h1:(aP V.l:Int)<gm
  .have hu:=HB.out (.inr (.inr h1));have hend:=early W2 hu bX2 V.bl (ij.old h hbw2) (aJ.of_below hbw2);have t1:decide ((aP V.l:Int)<gm)=true:=VO h1;go_wp2_with (first|refine am rfl 40 aZ (.tmp 4) rfl rfl bX2 rfl ?_|refine aa rfl 40 aZ (.tmp 4) _ rfl rfl rfl bX2 rfl rfl rfA ?_);refine aU rfl aZ rfl (bX2.setRow _) rfl rfl rfl ?_;rw [HS.out];exact hend
  have t1:decide ((aP V.l:Int)<gm)=false:=Vd h1;have hgood:=HG.out (by rw [hsb];simp;omega);obtain ⟨g,rfl⟩:∃g:Nat,gm=(g:Int):=⟨gm.toNat,oA⟩;rw [WM] at hgood;have hsm:=h.small;have hg4:g<=4096:=oA;obtain ⟨sa,sc,hlook⟩:=h2.rowLook hg4;obtain ⟨n,hn⟩:=Le ((ofG V.l (g:Int)).length);rw [<-hn] at hlook hgood;have hn4:n<=4096:=(by rw [hn,<-gU];exact hsm.2.2 _);have HGood:=Hd hgood;have HN:=Hd hn;clear hgood HB HG hn;go_upto_region 5 with fail;clear hs hsz cb;have nvb:V.v≠V.mb:=h2.blk.ne_gmap h2.bm;have nCb:C≠V.mb:=hc2.cur.ne_gmap h2.bm;have L0:∀W,But V.mb W2.drew W->∀i,W.cell? ⟨V.v,i,none⟩=(aQ V)[i]? :=fun W hW=>(h2.blk.drew.but hW nvb).rule;have L1:∀W,But V.mb W2.drew W->W.cell? ⟨C,0,none⟩=some (.slice a2 n2 c2):=fun W hW=>(hc2.cur.drew.but hW nCb).cell rfl;have L2:∀W,But V.mb W2.drew W->(Instr.lookup 90 (.map (some V.mg)) (.int .i64 (g:Int)) false).run prog W= .ok (.slice sa n sc) W:=fun W hW=>hlook W (hW.2 V.mg h2.gm.lt h2.ge.2.2.2);have hu:IntKind.u64.wrap (n:Int)=(n:Int):=by
   simp only [IntKind.wrap,IntKind.bits,IntKind.signed];simp;omega
  unfold aQ at L0;refine cj V.mb (.step 0 (.step 1 (.step 3 (.step 4 (.step 5 (.step 6 (.step 7 (.step 8 (.step 9 (.step 10 (.step 11 (.step 12 (.step 13 (.step 14 (.step 2 (.step 15 (.step 16 (.step 17 (.step 18 (.step 19 (.step 20 .done))))))))))))))))))))) krA krA cdA ?_
  repeat (first|refine tsA ?_|refine tqA ?_)
  refine an rfl rfl rfA (fun K hK=> ?_);go_wp2_with fail;have h2d:aR W2.drew B d V:=h2.old (AT _ _).drew;refine (xB W2.drew B d V h2d (by have:=hbw2.size;simp;omega) g hg4).mono ?_;rintro e W3 ⟨bb,bl,rfl,hbx,hv3,ht3⟩;go_wp2_with fail;refine hK _ _ ⟨ht3.size,fun x hx hne=>ht3.block x hx hne⟩ ?_;clear hK K;have hrest3:ah W3 a2 s2.b:=ah.notMap (w:=W2.drew) hc2.read h2d.bm ht3;have hX3:¬dW {V with bl:=bl} X:=fun hv=>by
   rcases hv3.foot' X hv with q|q
   .have:=(h.ltR q).2;omega
   .have:=bX2.lt;simp at q;omega
  have hvw3:ij B d w V W3 {V with bl:=bl}:=(ij.old h hbw2).trans ⟨hv3.turn.undrew',hv3.at',hv3.foot',rfl,rfl,rfl,rfl⟩;have tw3:aJ (fun x=>x=V.mb) w W3:=(aJ.of_below (F:=fun x=>x=V.mb) hbw2).trans (aJ.off ht3) fun _ q=> .inl q;have bX3:Blk W3 X bR 40:=(ht3.block X bX2.lt (bX2.ne_gmap h2.bm)).trans bX2;clear hlook L0 L1 L2
  repeat (first|refine tsA ?_|refine tqA ?_)
  refine an rfl rfl rfA (fun K hK=> ?_);go_wp2_with fail;have co:=Bk bb V.m g n a2 n2 c2 s2.b W3 hbx hrest3 hc2.hl hc2.h1 (XD hg4 dcA) (XD hn4 dcA) (At hc2.max dcA);refine co.mono ?_;clear co;rintro e W4 ⟨la,lk,lc,l,er,rfl,hop,hlk,hlr,hb4,hlkc⟩;go_wp2_with fail;refine hK _ _ ⟨hb4.size,fun x hx hne=>hb4.block x hx⟩ ?_;clear hK K
  repeat (first|refine tsA ?_|refine tqA ?_)
  refine ap ?_;have hllen:lk<=65536:=by
   have q:=ux V.m g n s2.b;rw [hop] at q;dsimp only at q;omega
  have bX4:=bX3.old hb4;have t4:aJ (fun x=>x=X) W3 W4:=aJ.of_below hb4;have hgood:=HGood.out;rw [hop] at hgood;dsimp only at hgood;by_cases her:er=0;rotate_left 1
  .rw [if_pos her] at hgood;have hend:=early W4 hgood bX4 bl (hvw3.ext h t4 hXw hX3) (tw3.trans (aJ.of_below hb4) fun _ q=> .inl q);have te:(er !=0)=true:=(by simpa using her);go_wp2_with (first|refine am rfl 40 aZ (.tmp 4) rfl rfl bX4 rfl ?_|refine aa rfl 40 aZ (.tmp 4) _ rfl rfl rfl bX4 rfl rfl rfA ?_);refine aU rfl aZ rfl (bX4.setRow _) rfl rfl rfl ?_;rw [HS.out];exact hend
  subst her;rw [if_neg skA] at hgood;have cr:=AH W4 la lk lc l hlr hlk oA hlkc;unfold jt at cr;generalize (fY l).1=p at*;generalize (fY l).2=er at*;have HU:=Hd hgood;clear hgood HGood hop hlr;go_wp2_with fail;refine cr.mono ?_;clear cr;rintro e W5 ⟨hp,rfl,hdo5,hb5⟩;have bX5:=bX4.old hb5;rw [aH];go_upto_region 9 with (refine aa rfl 40 aZ (.tmp 4) _ rfl rfl rfl bX5 rfl rfl rfA ?_);have t6:aJ (fun x=>x=X) W3 (W5.setRow X (ak p hp).toArray):=by
   refine (t4.trans (aJ.of_below (F:=fun x=>x=X) hb5) fun _ q=> .inl q).trans (G:=fun x=>x=X) ⟨rfl,rfl,rfl,by simp [World.setRow],fun k _ hk=>XC W5 X k _ hk⟩ fun _ q=> .inl q
  refine af (fun W=>Blk W X (ak p hp).toArray 40/\aX W w.heap.size p hp/\aJ (fun x=>x=X) W3 W) ⟨bX5.setRow _,(hdo5.row1 bX5 dcA dcA _).lower (by have:=hbw2.size;have:=ht3.size;have:=hb4.size;simp at*;omega),t6⟩ ?_;rintro W6 ⟨bX6,hdo6,t6⟩;clear t4 hb4 bX4 hb5 bX5 hdo5;have hv6:=hvw3.ext h t6 hXw hX3;have tw6:∀W,Below W6.heap.size W6 W->aJ (fun x=>x=V.mb) w W:=fun W hW=>(tw3.trans t6 fun k hk=> .inr (hk▸hXw)).trans (aJ.of_below (F:=fun x=>x=V.mb) hW) fun _ q=> .inl q;have hfin:∀W b,Below W6.heap.size W6 W->U=(p,b)->GM B d w V load (.returned (.tuple #[.agg (ak p hp).toArray,.bool b])) (W.setRow X (ak p hp).toArray):=fun W b hW hU=>by
   have bX:Blk W X (ak p hp).toArray 40:=bX6.old hW;rw [bX.setRow_self];unfold GM;rw [<-HU0.out,hU];exact ⟨hp,bl,rfl,hdo6.old hW,hv6.ext h ((aJ.of_below (F:=fun x=>x=X) hW)) hXw hX3,tw6 W hW⟩
  have hsz6:=t6.size;have M1:∀W,Old W6.drew W->∀j (hj:j<(ak p hp).length),W.cell? ⟨X,0+j,none⟩=some (ak p hp)[j]:=fun W hW j hj=>(bX6.drew.old hW).cells j hj;have M2:∀W,Old W6.drew W->W.cell? ⟨X,1,none⟩=some (.int .i64 p.game):=fun W hW=>(bX6.drew.old hW).cell rfl;have sp:cD (ak p hp).toArray 0 (ak p hp).toArray=(ak p hp).toArray:=rfl;have hfin':∀W b,Below W6.heap.size W6 W->U=(p,b)->GM B d w V load (.returned (.tuple #[.agg (ak p hp).toArray,.bool b])) W:=fun W b hW hU=>by
   have:=hfin W b hW hU;rwa [Blk.setRow_self (bX6.old hW)] at this
  have fin:∀W (a':Act) b,Blk W X (ak p hp).toArray 40->a'.tmps.getD 4 undef= .pointer (some ⟨X,0,none⟩)->a'.tmps.getD 5 undef= .bool b->a'.defers=[]->Below W6.heap.size W6 W->U=(p,b)->bodyPost prog Tryz.f50 S .ret a' W:=fun W a' b bX e1 e2 e3 hW hU=>by
   refine aU rfl aZ e1 bX rfl e2 e3 ?_;rw [HS.out];exact hfin' W b hW hU
  clear hfin hfin';by_cases her:er=0;rotate_left 1
  .have te:(er==0)=false:=(by simpa using her);have hu:U=(p,false):=(by rw [HU.out,Vd (fun q=>her q.1)];rfl);refine bU (0::1::2::3::4::5::6::7::8::9::10::11::12::13::14::[]) krA krA cdA ?_;refine mB (v:= .agg (ak p hp).toArray) rfl rfl rfA (fun W hW=>aI 40 aZ _ rfl rfl rfl (M1 W hW) rfl) ?_;simp only [Act.put,sTA,List.set]
   repeat (first|refine gsA ?_|refine gqA ?_)
   refine cT rfl rfl rfA (fun K hK=> ?_);refine bf 40 aZ _ _ rfl rfl rfl bX6.drew rfl (Lt 15) rfA ?_;rw [sp,Blk.setRow_self bX6.drew];refine hK _ _ (AT _ _) ?_;clear hK K
   repeat (first|refine gsA ?_|refine gqA ?_)
   refine fq ?_;go_wp2_with fail;exact fin _ _ false bX6.drew rfl rfl rfl (AT _ _).drew hu
  subst her;by_cases hgm:p.game=(g:Int);rotate_left 1
  .have te:(p.game==(g:Int))=false:=(by simpa using hgm);have hu:U=(p,false):=(by rw [HU.out,Vd (fun q=>hgm q.2)];rfl);refine bU (0::1::2::3::4::5::6::7::8::9::10::11::12::13::14::[]) krA krA cdA ?_;refine mB (v:= .agg (ak p hp).toArray) rfl rfl rfA (fun W hW=>aI 40 aZ _ rfl rfl rfl (M1 W hW) rfl) ?_;simp only [Act.put,sTA,List.set]
   repeat (first|refine gsA ?_|refine gqA ?_)
   refine cT rfl rfl rfA (fun K hK=> ?_);refine bf 40 aZ _ _ rfl rfl rfl bX6.drew rfl (Lt 15) rfA ?_;rw [sp,Blk.setRow_self bX6.drew];refine hK _ _ (AT _ _) ?_;clear hK K
   repeat (first|refine gsA ?_|refine gqA ?_)
   refine fq ?_;go_wp2_with fail;exact fin _ _ false bX6.drew rfl rfl rfl (AT _ _).drew hu
  have hu:U=(p,bp V.l p):=(by rw [HU.out,VO ⟨rfl,hgm⟩,Vr]);have te:(p.game==(g:Int))=true:=(by simpa using hgm);have HGM:=Hd hgm;clear hgm;refine bU (0::1::2::3::4::5::6::7::8::9::10::11::12::13::14::[]) krA krA cdA ?_;refine mB (v:= .agg (ak p hp).toArray) rfl rfl rfA (fun W hW=>aI 40 aZ _ rfl rfl rfl (M1 W hW) rfl) ?_;simp only [Act.put,sTA,List.set]
  repeat (first|refine gsA ?_|refine gqA ?_)
  refine cT rfl rfl rfA (fun K hK=> ?_);go_wp2_with fail;refine (nB W6.drew B d _ (hv6.at'.old (AT _ _).drew) X p hp bX6.drew).mono ?_;rintro e W7 ⟨rfl,hb7⟩;go_wp2_with fail;refine hK _ _ hb7 ?_;clear hK K;have bX7:Blk W7 X (ak p hp).toArray 40:=bX6.drew.old hb7;have hb67:Below W6.heap.size W6 W7:=⟨hb7.os,hb7.tape,hb7.output,hb7.size,hb7.block⟩;obtain ⟨fo,hfo⟩:=Le (bp ({V with bl:=bl}:aV).l p);rw [<-hfo];replace hu:U=(p,fo):=(by rw [hu,hfo];rfl);clear hfo;cases fo
  all_goals
   repeat (first|refine gsA ?_|refine gqA ?_)
   refine cT rfl rfl rfA (fun K hK=> ?_)
   refine bf 40 aZ _ _ rfl rfl rfl bX7 rfl (Lt 15) rfA ?_
   rw [sp,Blk.setRow_self bX7]
   refine hK _ _ (AT _ _) ?_
   clear hK K
   repeat (first|refine gsA ?_|refine gqA ?_)
   refine fq ?_
   go_wp2_with fail
   exact fin _ _ _ bX7 rfl rfl rfl hb67 hu
end
section
open Go.RowKit
theorem vK {b:List UInt8} (h:iz b=true):b=bj (fS b)++b.drop (8+eZ b)/\1<=(fS b).length/\(fS b).length<=65536:=by
 unfold iz at h;simp only [VN,Vu,Xj] at h;obtain ⟨⟨⟨⟨h1,h2⟩,h3⟩,h4⟩,h5⟩:=h;have hl:=sW h4;refine ⟨?_,oA,oA⟩;unfold bj;rw [<-h5];have e:fS b=(b.drop 8).take (eZ b):=rfl;rw [e,VM,<-Wu,WW,WW]
theorem pz:∀(f:Nat) (b:List UInt8),b=asQ (scan f b).1++(scan f b).2/\Kc (scan f b).1
 |0,b=>⟨by simp [scan,asQ],by intro x hx;simp [scan] at hx⟩
 |f+1,b=>by
  by_cases h:iz b=true
  .obtain ⟨h1,h2,h3⟩:=vK h;obtain ⟨i1,i2⟩:=pz f (b.drop (8+eZ b));rw [jm h];refine ⟨?_,?_⟩
   .show b=asQ (fS b::(scan f (b.drop (8+eZ b))).1)++(scan f (b.drop (8+eZ b))).2;rw [show asQ (fS b::(scan f (b.drop (8+eZ b))).1)=bj (fS b)++asQ (scan f (b.drop (8+eZ b))).1 by simp [asQ],VM,<-i1];exact h1
   .intro x hx;rcases Ve.1 hx with rfl|hx
    .exact ⟨h2,h3⟩
    .exact i2 x hx
  .have h:iz b=false:=(by simpa using h);rw [gO h];exact ⟨by simp [asQ],by intro x hx;cases hx⟩
theorem uV (p:aM) (nm:bz) (g:dx->dx) (hg:∀f,(g f).name=f.name):eW (jQ p nm g) nm=(eW p nm).map g:=by
 unfold eW jQ AN;dsimp only
 induction p.fs with
 |nil=>rfl
 |cons x l ih=>
  rw [WY,XL,XL];by_cases h:x.name=nm
  .rw [if_pos h];simp [hg,h]
  .rw [if_neg h];simp only [h,decide_false];exact ih
theorem IZ {p:aM} (h:(dz p).2=0):(dz p).1.fs=p.fs/\(dz p).1.down=p.down:=by
 unfold dz at h⊢;by_cases h1:p.armed=false
 .rw [if_pos h1];exact ⟨rfl,rfl⟩
 .rw [if_neg h1] at h⊢;by_cases h2:0<p.left
  .rw [if_pos h2];exact ⟨rfl,rfl⟩
  .rw [if_neg h2] at h;cases h
theorem Gi {p:aM} {nm:bz} {g:dx->aM×Int} (h:(lH p nm g).2=0):p.down=false/\∃f,eW p nm=some f/\lH p nm g=g f:=by
 unfold lH at h⊢;cases hd:p.down with
 |true=>rw [hd] at h;cases h
 |false=>
  rw [hd] at h;cases hf:eW p nm with
  |none=>rw [hf] at h;cases h
  |some f=>exact ⟨rfl,f,rfl,rfl⟩
theorem jC {p:aM} {nm:bz} {f:dx} (hd:p.down=false) (hf:eW p nm=some f):bG p nm=(f.b,0):=by
 unfold bG;rw [hd,hf];rfl
theorem Hk {p:aM} {nm:bz} (h:(eL p nm).2=0):∃f,eW p nm=some f/\p.down=false/\bG (eL p nm).1 nm=(f.b,0):=by
 obtain ⟨hd,f,hf,e⟩:=Gi h;have e:eL p nm=_:=e;rw [e] at h⊢
 try dsimp only at h⊢
 by_cases hg:(dz p).2=0
 .rw [if_pos hg];obtain ⟨g1,g2⟩:=IZ hg;have hf2:eW (dz p).1 nm=some f:=(by unfold eW at hf⊢;rw [g1];exact hf);refine ⟨f,hf,hd,?_⟩;refine jC (f:={f with sure:=f.b.length}) ?_ ?_
  .show (dz p).1.down=false;rw [g2];exact hd
  .exact (uV (dz p).1 nm (fun f=>{f with sure:=f.b.length}) (fun _=>rfl)).trans (by rw [hf2];rfl)
 .rw [if_neg hg] at h;exact absurd h hg
theorem Gz {p:aM} {nm:bz} {n:Int} (h:(jh p nm n).2=0):∃f,eW p nm=some f/\p.down=false/\0<=n/\n<=(f.b.length:Int)/\bG (jh p nm n).1 nm=(f.b.take n.toNat,0):=by
 obtain ⟨hd,f,hf,e⟩:=Gi h;have e:jh p nm n=_:=e;rw [e] at h⊢
 try dsimp only at h⊢
 by_cases hg:n<0\/(f.b.length:Int)<n
 .rw [if_pos hg] at h;cases h
 .rw [if_neg hg];refine ⟨f,hf,hd,oA,oA,?_⟩;refine jC (f:={f with b:=f.b.take n.toNat,sure:=n.toNat}) hd ?_;exact (uV p nm (fun f=>{f with b:=f.b.take n.toNat,sure:=n.toNat}) (fun _=>rfl)).trans (by rw [hf];rfl)
theorem Iz {p:aM} {nm:bz} (h:(ew p nm).2=0):bG (ew p nm).1 nm=([],0):=by
 unfold ew at h⊢;split at h
 .cases h
 .rename_i hd;split at h
  .cases h
  .rename_i hn;split at h
   .cases h
   .rename_i hs;split at h
    .cases h
    .rename_i hc;rw [if_neg hd,if_neg hn,if_neg hs,if_neg hc];refine jC (f:=⟨nm,[],0⟩) (by simpa using hd) ?_;unfold eW at hs⊢;dsimp only;rw [List.find?_append];cases hf:p.fs.find? (fun f=>decide (f.name=nm)) with
     |none=>simp
     |some f=>rw [hf] at hs;simp at hs
theorem zw (p:aM) (nm:bz) (h:(bG p nm).2≠0):(bG p nm).1=[]:=by
 unfold bG at h⊢;cases hd:p.down with
 |true=>rfl
 |false=>
  rw [hd] at h;cases hf:eW p nm with
  |none=>rfl
  |some f=>rw [hf] at h;simp at h
theorem kJ {p:aM} {nm:bz} (h:dH p nm=0):bG (fU p nm) nm=(asQ (cW p nm).1,0)/\Kc (cW p nm).1/\(cW p nm).1.length<=4096:=by
 have hM:(bS p nm).2=0:=by
  by_cases e:(bS p nm).2=0
  .exact e
  .rw [(sN e).1] at h;exact absurd h e
 have hC:(aY p nm).2=0:=by
  by_cases e:(aY p nm).2=0
  .exact e
  .rw [(pJ hM e).1] at h;exact absurd h e
 have hS:=ng hM hC;rw [hS.1] at h;rw [hS.2];have hsp:=pz iU (bG p nm).1;have hB:(cW p nm)=scan iU (bG p nm).1:=rfl;rw [<-hB] at hsp;refine ⟨?_,hsp.2,by rw [hB];have:=mY iU (bG p nm).1;rw [je] at this⊢;exact this⟩;have hr0:bG (bS p nm).1 nm=((bG p nm).1,0):=by
  unfold bS at hM⊢;by_cases e4:(bG p nm).2=4
  .rw [if_pos e4] at hM⊢;rw [Iz hM,zw p nm (by rw [e4];decide)]
  .rw [if_neg e4] at hM⊢;dsimp only at hM⊢;rw [<-hM]
 obtain ⟨f,hf,hd,hrd⟩:=Hk (show (eL (aY p nm).1 nm).2=0 from h);have e1:bG (dD p nm).1 nm=(f.b,0):=hrd;rw [e1];have e2:bG (aY p nm).1 nm=(f.b,0):=jC hd hf;by_cases h0:(cW p nm).2.length=0
 .have e3:aY p nm=((bS p nm).1,0):=(by unfold aY;rw [if_pos h0]);rw [e3] at e2;rw [hr0] at e2;have e4:=(Prod.mk.inj e2).1;rw [<-e4];have:(cW p nm).2=[]:=Vz h0;rw [this,Wq] at hsp;rw [<-hsp.1]
 .have e3:aY p nm=jh (bS p nm).1 nm ((((bG p nm).1.length-(cW p nm).2.length:Nat)):Int):=(by unfold aY;rw [if_neg h0]);rw [e3] at e2 hC;obtain ⟨f2,hf2,hd2,hn0,hn1,hrd2⟩:=Gz hC;rw [hrd2] at e2;have e4:=(Prod.mk.inj e2).1;rw [<-e4];have e5:=jC hd2 hf2;rw [hr0] at e5;rw [<-(Prod.mk.inj e5).1,WM];have hlen:(bG p nm).1.length=(asQ (cW p nm).1).length+(cW p nm).2.length:=by
   conv=>lhs;rw [hsp.1]
   rw [laA]
  rw [hlen,Xe];conv=>lhs;rw [hsp.1]
  rw [List.take_left]
theorem rs {p:aM} {nm:bz} (h:dH p nm=0) (k:Nat) (hc:(jh (fU p nm) nm ((asQ ((cW p nm).1.take k)).length:Int)).2=0):
  cW (jh (fU p nm) nm ((asQ ((cW p nm).1.take k)).length:Int)).1 nm=((cW p nm).1.take k,[]):=by
 obtain ⟨h1,h2,h3⟩:=kJ h;obtain ⟨f,hf,hd,hn0,hn1,hrd⟩:=Gz hc;have e5:=jC hd hf;rw [h1] at e5;rw [<-(Prod.mk.inj e5).1,WM] at hrd;generalize hls0:(cW p nm).1=ls at*;have hls:asQ ls=asQ (ls.take k)++asQ (ls.drop k):=by
  unfold asQ;rw [<-XP,<-VG,WW]
 have e6:(asQ ls).take (asQ (ls.take k)).length=asQ (ls.take k):=by
  conv=>lhs;rw [hls]
  rw [List.take_left]
 have hsc:=nC iU (ls.take k) [] (fun x hx=>h2 x (List.mem_of_mem_take hx)) (by rw [je,ltA];omega);have e0:scan (iU-(ls.take k).length) []=([],[]):=gO (iy skA);rw [Wq,e0] at hsc;simp only [Wq] at hsc;show scan iU (bG (jh (fU p nm) nm ((asQ (ls.take k)).length:Int)).1 nm).1=_;rw [hrd];dsimp only;rw [e6];exact hsc
def nA (p:aM) (nm:bz) (m:List UInt8):List ao:=fk m [] (cW p nm).1
def ie (p:aM) (nm:bz) (m:List UInt8):Nat:=(asQ ((cW p nm).1.take (nA p nm m).length)).length
def dS (p:aM) (nm:bz) (m:List UInt8):aM×Int:=jh (fU p nm) nm (ie p nm m:Int)
def ej (p:aM) (nm:bz) (m:List UInt8):Bool:=decide ((nA p nm m).length=(cW p nm).1.length)
def kV (p:aM) (nm:bz) (m:List UInt8):Int:=if dH p nm≠0 then dH p nm else if ej p nm m then 0 else if (dS p nm m).2≠0 then (dS p nm m).2 else dH (dS p nm m).1 nm
def sg (p:aM) (nm:bz) (m:List UInt8):aM:=if dH p nm≠0 then fU p nm else if ej p nm m then fU p nm else if (dS p nm m).2≠0 then (dS p nm m).1 else fU (dS p nm m).1 nm
def qB (p:aM) (nm:bz) (m:List UInt8):Nat:=if ej p nm m then ii p nm else ii p nm+((asQ (cW p nm).1).length-ie p nm m)
def qH (p:aM) (nm:bz) (m:List UInt8):List (List UInt8):=(cW p nm).1.take (nA p nm m).length
theorem xK (m:List UInt8):∀(ls:List (List UInt8)) (l:List ao),l.length<=(fk m l ls).length/\(fk m l ls).length<=l.length+ls.length
 | [],l=>⟨Lt _,Lt _⟩
 |x::r,l=>by
  rw [fk];split
  .have:=xK m r (l++ [(br m l x).1]);simp at this⊢;omega
  .simp
theorem AO {m:List UInt8} {l:List ao} {load:List UInt8} (h:(br m l load).2=true):il (br m l load).1=true/\bp l (br m l load).1=true:=by
 unfold br at h⊢;dsimp only at h⊢;split at h
 .cases h
 .rename_i h1;rw [if_neg h1];split at h
  .cases h
  .rename_i h2;rw [if_neg h2];simp only [VN,Vu] at h;obtain ⟨⟨h3,h4⟩,h5⟩:=h;refine ⟨?_,h5⟩;exact (Ep (p:=(fY (fl m (be ⟨load,false⟩).1.toNat (ofG l (be ⟨load,false⟩).1).length (be ⟨load,false⟩).2.b).1).1) (Prod.ext rfl h3)).1
end
section
open Go Go.RowKit
variable {F:Fence} {n:Nat} {P:Program} {w:World}
def vo {α:Type} (F:Fence) (n:Nat) (P:Program) (g:Nat) (lb:Array Value) (bg:α->Array Value) (M:List α->α->World->Prop) (Kp:World->World->Prop) (S Sp:List α->Prop) (w:World):Prop:=
 ∀(l:Nat) (J Jx:List α->World->Prop) (W:World),Below w.heap.size w W->AbidesFrom W.heap.size J->AbidesFrom W.heap.size Jx->
  (∀pre x W1,J pre W1->M pre x W1->YieldAt F (n-1) P l (bg x) W1 fun e W'=>
   (e= .returned (.bool true)/\J (pre++ [x]) W'/\Kp W1 W')\/(e= .returned (.bool false)/\Jx (pre++ [x]) W'))->
  J [] W->
  CallsIn F n P g (#[.func (.yield l) #[] #[]]++lb) W fun e W'=>(∃v,e= .returned v)/\((∃xs,S xs/\J xs W')\/(∃pre,Sp pre/\Jx pre W'))
structure xm {α:Type} (I:List α->World->Prop) (b:Nat) (r:Loop) (pre:List α) (W:World):Prop where
 own:I pre W
 rcd:W.heap[b+1]? =some (.loop r)
 dfr:W.heap[b]? =some (.deferred (some []))
theorem xm.abides {α:Type} {I:List α->World->Prop} {b:Nat} {r:Loop} (hI:OwnFrom b I) {B:Nat} (hB:b<=B):AbidesFrom B (xm I b r):=fun s X Y row hs hg hr=>
 ⟨hI s X Y row hs.own hg fun q e=>by obtain ⟨h1,o,ho,hw⟩:=hr q e;exact ⟨At hB h1,o,ho,Obj.not_cells_of_walk hw⟩,(grownBy_keeps hg (fun q e=>(hr q e).2) hs.rcd rfl).trans hs.rcd,(grownBy_keeps hg (fun q e=>(hr q e).2) hs.dfr rfl).trans hs.dfr⟩
theorem xm.turn {α:Type} {I:List α->World->Prop} {b:Nat} {r:Loop} {pre:List α} {W:World} (hI:OwnFrom b I) (h:xm I b r pre W) (r':Loop):xm I b r' pre (W.putObj (b+1) (.loop r')):=
 ⟨hI.putObj _ h.own oA h.rcd rfl,World.putObj_heap_same (VK.1 h.rcd).1,(World.putObj_heap_other oA).trans h.dfr⟩
theorem ly {α:Type} {g:Operand} {ps:Array Tmp} {assign body:Code} {Q:Exit->Act->World->Prop} {a:Act}
  (hro:F.round=none) (h1:1<=n) {gf:Nat} {lb:Array Value} (hg:a.eval g= .func (.func gf) #[] lb) (hFg:F.fn gf) (eg:∀args w,(callFunc gf args).run P w= .ok (.enter gf args) w)
  {bg:α->Array Value} {M:List α->α->World->Prop} {Kp:World->World->Prop} {S Sp:List α->Prop} {w0:World} (hseq:vo F (n-1) P gf lb bg M Kp S Sp w0)
  (hM:OwnFrom w.heap.size (fun (p:List α×α) W=>M p.1 p.2 W))
  (hKt:∀{A B C:World},Kp A B->Kp B C->Kp A C) (hKb:∀(W:World) (l:Nat) (o o':Obj),w.heap.size<=l->W.heap[l]? =some o->o.isCells=false->o.isWalk=false->Kp W (W.putObj l o')) (hb0:Below w0.heap.size w0 w) (hps:∀x,(bg x).size=ps.size)
  (I:List α->World->Prop) (Ix:Code->List α->World->Prop) (hI:OwnFrom w.heap.size I) (hIx:∀c,OwnFrom w.heap.size (Ix c)) (h0:I [] w) (a₁:α->Act)
  (hassign:∀(l:Nat) (x:α) (W:World) (K:Act->World->Prop),K (a₁ x) W->
   assign.wpIn (F.inRound l) (n-1-1) P (Exit.then K (fun _ _ _=>False)) {tmps:=(ps.zip (bg x)).foldl (fun t (p,v)=>t.setIfInBounds p v) a.tmps,defers:=[]} W)
  (hbody:∀(l:Nat) (pre:List α) (x:α) (W:World),I pre W->M pre x W->body.wpIn (F.inRound l) (n-1-1) P (ownPostG w.heap.size Kp I Ix (pre++ [x]) W) (a₁ x) W)
  (hdone:∀(D:Nat) (xs:List α) (W:World),w.heap.size<=D->S xs->I xs W->W.heap[D]? =some (.deferred (some []))->Q .normal {a with defers:={target:= .collected D,args:= #[]}::a.defers} W)
  (hstop:∀(D:Nat) (c:Code) (pre:List α) (W:World),w.heap.size<=D->Sp pre->Ix c pre W->W.heap[D]? =some (.deferred (some []))->c.wpIn F n P Q {a with defers:={target:= .collected D,args:= #[]}::a.defers} W):
  (Code.rangeFunc g ps assign body).wpIn F n P Q a w:=by
 refine wpIn_rangeFunc fun fn hfn=> ?_;rw [hro];obtain ⟨R,hR⟩:∃R:LoopState->Option Code->Loop,∀st pe,R st pe={state:=st,pending:=pe,fn,tmps:=a.tmps,params:=ps,assign,body,defers:=w.heap.size}:=⟨_,fun _ _=>rfl⟩;have start:xm I w.heap.size (R .ready none) [] ((w.alloc (.deferred (some []))).alloc (.loop (R .ready none))):=
  ⟨hI.alloc _ (hI.alloc _ h0),by have:=World.alloc_heap_new (w.alloc (.deferred (some []))) (.loop (R .ready none));rwa [Wg] at this,(Vi _ _ _ skA).trans (World.alloc_heap_new w _)⟩
 have bel:Below w0.heap.size w0 ((w.alloc (.deferred (some []))).alloc (.loop (R .ready none))):=hb0.trans ((((AT _ w).alloc (Lt _) _).alloc skA _).mono hb0.size);have big:w.heap.size<=((w.alloc (.deferred (some []))).alloc (.loop (R .ready none))).heap.size:=soA;refine ⟨w.heap.size+1,[{target:= .collected w.heap.size,args:= #[]}],((w.alloc (.deferred (some []))).alloc (.loop (R .ready none))),{target:= .fn (.func gf) lb,args:= #[.func (.yield (w.heap.size+1)) #[] #[]]},(w.alloc (.deferred (some []))).alloc (.loop (R .ready none)),gf,
  #[.func (.yield (w.heap.size+1)) #[] #[]]++lb,((w.alloc (.deferred (some []))).alloc (.loop (R .ready none))),by rw [hR];exact run_enterLoop_outer _ _ _ _ _,by simp only [resolve,hg];simp [go_sem],fun f' hf'=>by simp [Target.leads] at hf';subst hf';exact hFg,by simp [invoke,go_sem,eg],fun _=>h1,?_⟩
 have one:∀pre x W,xm I w.heap.size (R .ready none) pre W->M pre x W->YieldAt F (n-1-1) P (w.heap.size+1) (bg x) W fun e W'=>
   (e= .returned (.bool true)/\xm I w.heap.size (R .ready none) (pre++ [x]) W'/\Kp W W')\/(e= .returned (.bool false)/\∃c,xm (Ix c) w.heap.size (R .done (some c)) (pre++ [x]) W'):=by
  intro pre x W h hm;have hy:=run_yield (P:=P) (args:=bg x) h.rcd (by rw [hR];exact hps x);rw [hR] at hy;refine ⟨fn,_,assign,body,hy,roundIn_of_wpIn hfn (hassign _ x W _ ⟨_,run_beginRound h.rcd (by rw [hR]),?_⟩)⟩;have h2:=h.turn hI {R .ready none with state:= .busy};have m2:M pre x (W.putObj (w.heap.size+1) (.loop {R .ready none with state:= .busy})):=hM.putObj (s:=(pre,x)) _ hm oA h.rcd rfl;have k2:=hKb W _ _ (.loop {R .ready none with state:= .busy}) (XB w.heap.size) h.rcd rfl rfl;refine wpIn_mono (hbody _ pre x _ h2.own m2) ?_;have fin:∀(jump:Option Code) (W3:World),KeepsFrom w.heap.size (W.putObj (w.heap.size+1) (.loop {R .ready none with state:= .busy})) W3->∀(I':List α->World->Prop),OwnFrom w.heap.size I'->I' (pre++ [x]) W3->
    (Instr.endRound (w.heap.size+1) jump).run P W3= .ok (.bool jump.isNone) (W3.putObj (w.heap.size+1) (.loop (R (if jump.isNone then .ready else .done) jump)))/\W3.heap[w.heap.size+1]? =some (.loop {R .ready none with state:= .busy})/\
    xm I' w.heap.size (R (if jump.isNone then .ready else .done) jump) (pre++ [x]) (W3.putObj (w.heap.size+1) (.loop (R (if jump.isNone then .ready else .done) jump))):=fun jump W3 hk I' hI' hi=>by
   have h3:xm I' w.heap.size {R .ready none with state:= .busy} (pre++ [x]) W3:=⟨hi,hk.same _ _ oA h2.rcd rfl,hk.same _ _ (Lt _) h2.dfr rfl⟩;have hr3:=h3.rcd;have:=run_endRound (P:=P) jump h3.rcd;refine ⟨?_,h3.rcd,h3.turn hI' _⟩;rw [hR] at this⊢;exact this
  rintro e a3 W3 hp;cases e with
  |normal=>
   obtain ⟨hk3,hkp3,hi3⟩:=hp;obtain ⟨hr,hl3,h4⟩:=fin none W3 hk3 I hI hi3;exact ⟨_,_,hr,.inl ⟨rfl,h4,hKt (hKt k2 hkp3) (hKb _ _ _ _ oA hl3 rfl rfl)⟩⟩
  |ret=>exact ⟨_,_,(fin (some .ret) W3 hp.1 _ (hIx _) hp.2).1,.inr ⟨rfl,_,(fin (some .ret) W3 hp.1 _ (hIx _) hp.2).2.2⟩⟩
  |exit id=>exact ⟨_,_,(fin (some (.exit id)) W3 hp.1 _ (hIx _) hp.2).1,.inr ⟨rfl,_,(fin (some (.exit id)) W3 hp.1 _ (hIx _) hp.2).2.2⟩⟩
  |goto t=>exact ⟨_,_,(fin (some (.goto t)) W3 hp.1 _ (hIx _) hp.2).1,.inr ⟨rfl,_,(fin (some (.goto t)) W3 hp.1 _ (hIx _) hp.2).2.2⟩⟩
  |panic ch=>exact hp.elim
  |outgrown=>exact hp.elim
 refine (hseq (w.heap.size+1) (xm I w.heap.size (R .ready none)) (fun pre W=>∃c,xm (Ix c) w.heap.size (R .done (some c)) pre W) _ bel (xm.abides hI big) (fun s X Y row hs hg' hr=>by obtain ⟨c,hc⟩:=hs;exact ⟨c,xm.abides (hIx c) big s X Y row hc hg' hr⟩) one start).mono ?_;rintro e W2 ⟨⟨v,rfl⟩,(⟨xs,hS,h⟩|⟨pre,hSp,c,h⟩)⟩
 .refine ⟨none,_,by have:=run_endLoop (P:=P) h.rcd (by rw [hR];simp);rw [hR] at this;exact this,?_⟩;exact hdone _ xs _ (Lt _) hS (hI.putObj _ h.own oA h.rcd rfl) ((World.putObj_heap_other oA).trans h.dfr)
 .refine ⟨some c,_,by have:=run_endLoop (P:=P) h.rcd (by rw [hR];simp);rw [hR] at this;exact this,?_⟩;exact hstop _ c pre _ (Lt _) hSp ((hIx c).putObj _ h.own oA h.rcd rfl) ((World.putObj_heap_other oA).trans h.dfr)
end
section
open Go.RowKit
def sR (o:Oper):Bool:=match o.op with
 | .defer _=>false
 |_=>true
section
variable {n l:Nat} {P:Program} {ops:Array Oper} {Q:Exit->Act->World->Prop} {md:Region.Mode}
theorem rq {o:Oper} {a:Act} {w:World} {K:Act->World->Prop} (hd:sR o=true) (h:o.wp P a w K Q):o.wpIn (Fence.wide.inRound l) n P a w K Q:=by
 have hs:o.semAt (Fence.wide.inRound l).round a.eval=execOp a.eval o:=Oper.semAt_eq _ _ _ (fun c e=>by simp [sR,e] at hd);refine ⟨fun _ _=>trivial,?_⟩;rw [hs];unfold Oper.wp at h;generalize (execOp a.eval o).run P w=r at*;cases r with
 |ok x w'=>
  cases x<;>simp only [Oper.upon] at h<;>simp only [Oper.uponIn]
  case value=>exact h
  case skip=>exact h
  case defer=>exact h
  case enter f args=>exact ⟨fun e=>by simp [Fence.wide] at e,(callsIn_wide (n:=n-1)).2 h⟩
  case row row args=>exact ⟨fun e=>by simp [Fence.wide] at e,fun c cs _=>let ⟨v,w',r,s⟩:=h c cs;⟨v,w',r,(stepsIn_wide (P:=P)).2 s⟩⟩
 |halt x w'=>cases x<;>simp only [Oper.upon] at h<;>simp only [Oper.uponIn]<;>exact h
end
end
section
open Go.RowKit Go.Shelf
attribute [local go_sem] Oper.semAt_some
theorem IH (w:World) (B d:Nat) (R:jP) (h:ld w B d R):Calls prog 108 #[.pointer (some ⟨R.l,0,none⟩)] w fun e w'=>e= .returned (.int .i64 (R.ls.length:Int))/\w'=w:=by
 have hb:=h.blk.rule;go_enter func108,ntmps108;go_wp2_with fail;go_ret;exact ⟨rfl,rfl⟩
theorem Fr (w:World) (l:Nat):Calls prog 49 #[.pointer (some ⟨l,0,none⟩)] w fun e w'=>e= .returned (.func (.func 107) #[] #[.pointer (some ⟨w.heap.size,0,none⟩)])/\w'=w.alloc (.cells #[.pointer (some ⟨l,0,none⟩)] 86):=by
 have hmf:∀(fn:Fn) (first cap:Array Value) (w:World),(Instr.makeFunc fn first cap).run prog w= .ok (.func fn first cap) w:=fun _ _ _ _=>rfl;go_enter func49,ntmps49;go_wp2_with fail;go_ret;exact ⟨rfl,rfl⟩
def GR (ls:List (List UInt8)) (pre:List (Nat×Value)) (x:Nat×Value) (W:World):Prop:=
 x.1=pre.length/\∃(h:x.1<ls.length) (a:Option Addr) (c:Nat),x.2= .slice a ls[x.1].length c/\ah W a ls[x.1]/\ls[x.1].length<=c
def wQ (x:Nat×Value):Array Value:= #[.int .i64 (x.1:Int),x.2]
theorem qS {W W':World} (h:Below W.heap.size W W'):W.grownBy W' none:=⟨h.os,h.tape,h.output,h.size,fun k hk _=>h.block k hk⟩
theorem aq.putObj {S:Nat->Prop} {W:World} {l:Nat} (o':Obj) (hS:∀x,S x->x≠l):aq S W (W.putObj l o'):=⟨(grownBy_putObj' W l o').size,fun x hx=>World.putObj_heap_other (hS x hx)⟩
theorem CM (n:Nat) (h1:1<=n) (B d:Nat) (R:jP) (bx:Nat) (w:World) (h:ld w B d R) (hbx:w.cell? ⟨bx,0,none⟩=some (.pointer (some ⟨R.l,0,none⟩))):
  vo Fence.wide n prog 107 #[.pointer (some ⟨bx,0,none⟩)] wQ (GR R.ls) (aq fun x=>dJ R x\/x=bx) (fun xs=>xs.length=R.ls.length) (fun _=>True) w:=fun l J Jx W hW hJ _ hY h0=>by
 have hbl:=VV w _ hbx;have hcnt:=h.cnt;have hlog:∀W',aq (fun x=>dJ R x\/x=bx) w W'->ld W' B d R:=fun W' hk=>h.keep fun x hx=>hk.2 x (.inl hx);have hS:∀x,(dJ R x\/x=bx)->x<w.heap.size:=fun x hx=>hx.elim (fun hx=>(h.lt hx).2) (fun hx=>hx▸hbl);have hbox:∀W',aq (fun x=>dJ R x\/x=bx) w W'->W'.cell? ⟨bx,0,none⟩=some (.pointer (some ⟨R.l,0,none⟩)):=fun W' hk=>(VJ (a:=⟨bx,0,none⟩) (hk.2 bx (.inr rfl))).trans hbx;refine callsIn_of_wp func107 rfl trivial ?_ rfl;simp only [ntmps107,List.size_toArray,VT,Wy,Nat.reduceAdd,Nat.reduceSub,Array.replicate_succ,Array.replicate_zero,List.push_toArray,List.append_toArray,Wf,XN];have hB':W.cell? ⟨bx,0,none⟩=some (.pointer (some ⟨R.l,0,none⟩)):=(hW.cell (p:=⟨bx,0,none⟩) hbl).trans hbx;have hlen:=IH W B d R (h.old hW)
 gi_wp2_with (refine ⟨trivial,?_⟩;gi_at_call 108;refine (callsIn_wide.2 hlen).mono ?_;rintro e w' ⟨rfl,rfl⟩);clear hlen hB'
 gi_loopw [6] (fun p wr=>∃(k:Nat) (pre:List (Nat×Value)),k<=R.ls.length/\p= .int .i64 k/\pre.length=k/\J pre wr/\aq (fun x=>dJ R x\/x=bx) w wr) (fun p _=>R.ls.length-(intOf p).toNat)
 case atStart=>exact ⟨0,[],Vo _,rfl,rfl,h0,aq.below hW hS⟩
 case round=>
  obtain ⟨k,pre,hk,rfl,hpre,hJs,hbw⟩:=hrel;by_cases hlt:k<R.ls.length
  .have hp:wr.cell? ⟨bx,0,none⟩=some (.pointer (some ⟨R.l,0,none⟩)):=hbox _ hbw;have hr:=hlog _ hbw;have hb:=hr.blk.rule;obtain ⟨A,C,e1,hown⟩:=hr.rows.2.2 k hlt;have hvl:k<R.vs.length:=(by rw [hr.rows.2.1];exact hlt);obtain ⟨rb,ro,e2,hcell⟩:=hr.rows.1.row k hvl;have hcell':wr.cell? ⟨rb,ro+k,none⟩=some (.slice A R.ls[k].length C):=(by rw [hcell,<-e1,Vx hvl]);rw [e2] at hb;have hlk:R.ls[k].length<=65536:=h.lens _ (VE hlt);have HK:=Hd (show R.ls[k].length=R.ls[k].length from rfl);clear hcell e1 e2
   gi_wp2_with (refine ⟨trivial,?_⟩;gi_at_call 48;refine (callsIn_wide.2 (js A _ C R.ls[k] wr hown.row rfl oA)).mono ?_;rintro e w1 ⟨a',c',rfl,hown1,hb1⟩);have hJ1:J pre w1:=hJ pre wr w1 none hJs (qS hb1) (fun r e=>by cases e);have hm1:GR R.ls pre (k,.slice a' R.ls[k].length c') w1:=⟨hpre.symm,hlt,a',c',rfl,hown1.row,hown1.le⟩;obtain ⟨fn,tmps,assign,body,hy,hR⟩:=hY pre (k,.slice a' R.ls[k].length c') w1 hJ1 hm1;have hb01:aq (fun x=>dJ R x\/x=bx) w w1:=hbw.trans (aq.below hb1 fun x hx=>VF (hS x hx) hbw.1);clear hm1 hown1 hb1 hJ1 hJs;unfold wQ at hy;dsimp only at hy
   gi_wp2;rw [hy,Oper.uponIn_round];refine ⟨fun _=>h1,hR.mono ?_⟩;rintro e W3 (⟨rfl,hJ3,hk3⟩|⟨rfl,hJx3⟩)
   .gi_wp2;go_roundw
    case rel=>exact ⟨k+1,pre++ [(k,.slice a' R.ls[k].length c')],oA,gnA,by simp [hpre],hJ3,hb01.trans hk3⟩
    case measure=>simp [intOf];omega
   .gi_wp2;refine bodyPost_ret (Wx rfl _ _ _) rfl ?_;exact ⟨⟨_,rfl⟩,.inr ⟨_,trivial,hJx3⟩⟩
  .obtain rfl:k=R.ls.length:=oA
   gi_wp2;go_end0;exact ⟨⟨_,rfl⟩,.inl ⟨_,hpre,hJs⟩⟩
end
section
open Go Go.RowKit
variable {F:Fence} {n:Nat} {P:Program} {w:World}
def Iq (Q:Exit->Act->World->Prop):Exit->Act->World->Prop
 | .panic _,_,_=>False
 |e,a,w=>Q e a w
theorem uH {Q:Exit->Act->World->Prop}:∀(e:Exit) (a:Act) (w:World),Iq Q e a w->Q e a w:=fun e a w h=>by
 cases e<;>first|exact h|exact h.elim
end
end Go.Proofs.YtioigihakjlopaaGreat

/- Texts put together and cut to what is used: VaultU, VaultQ, RangeM, RoundIn. -/
import Derived.Test.YtioigihakjlopaaGreatVB32
import Derived.RangeFuncNested
import Derived.RangeFuncBound
import Derived.RangeFuncCalls
import Derived.RangeFuncLeaves
import Derived.Below
import Derived.OrdersIn
namespace Go.Proofs.YtioigihakjlopaaGreat
set_option linter.unusedVariables false
set_option linter.unusedSimpArgs false
section
open Go.RowKit Go.Maps
set_option maxRecDepth 20000
def VUnP (B d:Nat) (w:World) (V:VaultR) (load:List UInt8) (e:Ending) (w':World):Prop:=∃(hx:DeedH) (bl:List (Nat×Nat)),e= .returned (.tuple #[deedVal (unloadV V.m V.l load).1 hx,.bool (unloadV V.m V.l load).2])∧DeedOwn w' w.heap.size (unloadV V.m V.l load).1 hx∧VOnly B d w V w' {V with bl:=bl}∧Turn (fun x=>x=V.mb) w w'
section
variable {w w':World} {B d:Nat} {V:VaultR}
theorem BytesAt.notMap {a:Option Addr} {l:List UInt8} (h:BytesAt w a l) {P:Program} {k:TypeId} {R:Value→Option (DU×List MemPlace)} {M:Nat} {es:List (Lit×DU)} (hm:GMap w P k R M es) (ht:Turn (fun x=>x=M) w w'):BytesAt w' a l:=by
 intro i hi
 obtain ⟨b,o,e,hc⟩:=h i hi
 refine ⟨b,o,e,?_⟩
 have hlt:=World.block_lt_of_cell? w _ hc
 rw [World.cell?_of_block (a:=⟨b,o+i,none⟩) (ht.block b hlt ?_)]
 ·exact hc
 ·rintro rfl
  obtain ⟨es,clock,hb⟩:=hm.obj
  simp [World.cell?,hb] at hc
theorem Turn.undrew' {F:Nat→Prop} {a b:World} (h:Turn F a.drew b):Turn F a b:=⟨h.os,h.tape,h.output,h.size,h.block⟩
theorem VOnly.ext {w3 w4:World} {V3:VaultR} {X:Nat} (hv:VOnly B d w V w3 V3) (h:VaultAt w B d V) (ht:Turn (fun x=>x=X) w3 w4) (hX:w.heap.size≤X) (hXn:¬vrest V3 X):VOnly B d w V w4 V3:=by
 refine ⟨hv.turn.trans ht fun k hk=> .inr (hk▸hX),hv.at'.keep fun x hx=>ht.block x (hv.at'.lt hx).2 fun e=> ?_,hv.foot',hv.R,hv.v,hv.m,hv.down⟩
 subst e
 rcases hx with hx|hx
 ·rw [hv.R] at hx
  have:=(h.log.lt hx).2
  omega
 ·exact hXn hx
theorem VaultAt.rowLook (h:VaultAt w B d V) {g:Nat} (hg:g≤4096):∃(sa:Option Addr) (sc:Nat),∀W,W.heap[V.mg]? =w.heap[V.mg]?→(Instr.lookup 90 (.map (some V.mg)) (.int .i64 (g:Int)) false).run Tryz.prog W= .ok (.slice sa (ofG V.l (g:Int)).length sc) W:=by
 by_cases hgl:g<gamesN V.l
 ·refine ⟨some ⟨V.f g,0,none⟩,V.fc g,fun W hW=> ?_⟩
  have hk:=keyOfV (n:=g) (by omega)
  obtain ⟨v,ps,hr,hv⟩:=(h.gm.keep hW).look keyIv Tryz.underlying90 (zeroRow W) (show Rs (.slice none 0 0)=some (.agg [],[]) from rfl) hk (entsG_mem hgl)
  rw [hr,Rs_inv hv,placesOf_len]
 ·rw [h.good.none (g:=(g:Int)) (by omega)]
  refine ⟨none,0,fun W hW=> ?_⟩
  have hk:=keyOfV (n:=g) (by omega)
  obtain ⟨v,ps,hr,hv⟩:=(h.gm.keep hW).look_no keyIv Tryz.underlying90 (zeroRow W) (show Rs (.slice none 0 0)=some (.agg [],[]) from rfl) hk (entsG_no (by omega))
  rw [hr,Rs_zero hv]
  rfl
theorem openL_len (m:List UInt8) (g n:Nat) (b:List UInt8):(openL m g n b).1.length≤b.length:=by
 unfold openL
 split
 ·dsimp only
  rw [stm_length,List.length_take]
  omega
 ·simp
end
set_option maxHeartbeats 4000000 in
theorem vunload_any (w:World) (B d:Nat) (V:VaultR) (h:VaultAt w B d V) (hB:B≤w.heap.size) (a:Option Addr) (n c:Nat) (load:List UInt8) (hl:BytesAt w a load) (hn:load.length=n) (hc:n≤c) (hm:n≤65536):
  Calls Tryz.prog 50 #[.pointer (some ⟨V.v,0,none⟩),.slice a n c] w (VUnP B d w V load):=by
 obtain ⟨S,hS⟩:∃S,S=VUnP B d w V load:=⟨_,rfl⟩
 rw [←hS]
 have HS:=Lib.hid hS
 clear hS
 go_enter Tryz.func50,Tryz.ntmps50
 go_upto_region 2 with (fail)
 obtain ⟨X,hX⟩:∃X,X=w.heap.size:=⟨_,rfl⟩
 rw [←hX]
 refine wp_forget (fun W=>Blk W X zeroDC 40∧VCur W w.heap.size (X+1) ⟨load,false⟩ a n c∧Below w.heap.size w W) ⟨by subst hX;exact Blk.new2 w _ _ _,?_,by subst hX;(try unfold Kept);repeat (first|assumption|exact Below.refl _ _|exact below_undrew (Below.refl _ _)|exact Below.mono (by assumption) (by first|(simp;done)|(simp;omega)|omega)|refine below_setRow ?_ (by first|(simp;done)|(simp;omega)|omega) _|refine Below.setCell ?_ (by first|(simp;done)|(simp;omega)|omega) _|refine Below.alloc ?_ (by first|(simp;done)|(simp;omega)|omega) _|refine below_drewN ?_ _|refine Below.drew ?_|refine below_undrew ?_|refine below_step ?_ (by assumption))⟩ ?_
 ·exact ⟨by subst hX;exact Blk.new2' w _ _ _,(hl.alloc _).alloc _,hn,hc,by omega,hl.inB hn⟩
 rintro W1 ⟨bX,hcur,hbw⟩
 have hXw:w.heap.size≤X:=Nat.le_of_eq hX.symm
 clear hX
 obtain ⟨C,hC⟩:∃C,C=X+1:=⟨_,rfl⟩
 rw [←hC] at hcur⊢
 have hXC:X≠C:=by omega
 have hCw:w.heap.size≤C:=by omega
 clear hC
 go_wp2_with fail
 refine (vnumber_any w.heap.size C _ a n c _ hcur).mono ?_
 rintro e W2 ⟨a2,n2,c2,rfl,hc2,ht2⟩
 have bX2:Blk W2 X zeroDC 40:=(ht2.block X bX.lt hXC).trans bX
 have hbw2:Below w.heap.size w W2:=hbw.trans (ht2.below (fun x hx=>by omega) hbw.size)
 have h2:=h.old hbw2
 have hlen2:(numC ⟨load,false⟩).2.b.length≤65536:=by
  have:=numC_len ⟨load,false⟩
  dsimp only at this
  omega
 have hwf:=numC_wf ⟨load,false⟩
 obtain ⟨U,hU⟩:∃U,U=unloadV V.m V.l load:=⟨_,rfl⟩
 have hU2:=hU
 unfold unloadV at hU2
 dsimp only at hU2
 generalize (numC ⟨load,false⟩).1=gm at*
 generalize (numC ⟨load,false⟩).2=s2 at*
 have HU:=Lib.hid hU2
 have HU0:=Lib.hid hU
 clear hU hU2 hcur ht2 bX hbw
 have cb:W2.cell? ⟨C,1,none⟩=some (.bool s2.bad):=hc2.cur.cell rfl
 have hs:=h2.blk.rule
 unfold vaultCells at hs
 have hsz:=h2.size
 have bad:(s2.bad=true∨gm<0∨(gamesN V.l:Int)<gm)→U=(zeroD,false):=fun e=>by rw [HU.out,if_pos e]
 have good:¬(s2.bad=true∨gm<0∨(gamesN V.l:Int)<gm)→U=(if (openL V.m gm.toNat (ofG V.l gm).length s2.b).2≠0 then (zeroD,false) else ((readD (openL V.m gm.toNat (ofG V.l gm).length s2.b).1).1,decide ((readD (openL V.m gm.toNat (ofG V.l gm).length s2.b).1).2=0∧(readD (openL V.m gm.toNat (ofG V.l gm).length s2.b).1).1.game=gm)&&followsD V.l (readD (openL V.m gm.toNat (ofG V.l gm).length s2.b).1).1)):=fun e=>by rw [HU.out,if_neg e]
 have HB:=Lib.hid bad
 have HG:=Lib.hid good
 clear bad good HU
 have early:∀W,U=(zeroD,false)→Blk W X zeroDC 40→(bl:List (Nat×Nat))→VOnly B d w V W {V with bl:=bl}→Turn (fun x=>x=V.mb) w W→VUnP B d w V load (.returned (.tuple #[.agg zeroDC,.bool false])) (W.setRow X zeroDC):=fun W hU hb bl hv ht=>by
  unfold VUnP
  rw [←HU0.out,hU,hb.setRow_self]
  exact ⟨nilDH,bl,rfl,zeroD_own _ _,hv,ht⟩
 cases hsb:s2.bad with
 |true=>
  rw [hsb] at cb
  have hu:=HB.out (.inl hsb)
  have hend:=early W2 hu bX2 V.bl (VOnly.old h hbw2) (Turn.of_below hbw2)
  clear hsz
  go_wp2_with (first|refine wpList_load_blk rfl 40 deedT (.tmp 4) rfl rfl bX2 rfl ?_|refine wpList_store_blk rfl 40 deedT (.tmp 4) _ rfl rfl rfl bX2 rfl rfl (by rfl) ?_)
  refine post_blk_tmp rfl deedT rfl (bX2.setRow _) rfl rfl rfl ?_
  rw [HS.out]
  exact hend
 |false=>
  rw [hsb] at cb
  by_cases h0:gm<0
  ·have hu:=HB.out (.inr (.inl h0))
   have hend:=early W2 hu bX2 V.bl (VOnly.old h hbw2) (Turn.of_below hbw2)
   have t0:decide (gm<0)=true:=decide_eq_true h0
   clear hsz
   go_wp2_with (first|refine wpList_load_blk rfl 40 deedT (.tmp 4) rfl rfl bX2 rfl ?_|refine wpList_store_blk rfl 40 deedT (.tmp 4) _ rfl rfl rfl bX2 rfl rfl (by rfl) ?_)
   refine post_blk_tmp rfl deedT rfl (bX2.setRow _) rfl rfl rfl ?_
   rw [HS.out]
   exact hend
  have t0:decide (gm<0)=false:=decide_eq_false h0
  by_cases h1:(gamesN V.l:Int)<gm
  ·have hu:=HB.out (.inr (.inr h1))
   have hend:=early W2 hu bX2 V.bl (VOnly.old h hbw2) (Turn.of_below hbw2)
   have t1:decide ((gamesN V.l:Int)<gm)=true:=decide_eq_true h1
   go_wp2_with (first|refine wpList_load_blk rfl 40 deedT (.tmp 4) rfl rfl bX2 rfl ?_|refine wpList_store_blk rfl 40 deedT (.tmp 4) _ rfl rfl rfl bX2 rfl rfl (by rfl) ?_)
   refine post_blk_tmp rfl deedT rfl (bX2.setRow _) rfl rfl rfl ?_
   rw [HS.out]
   exact hend
  have t1:decide ((gamesN V.l:Int)<gm)=false:=decide_eq_false h1
  have hgood:=HG.out (by rw [hsb];simp;omega)
  obtain ⟨g,rfl⟩:∃g:Nat,gm=(g:Int):=⟨gm.toNat,by omega⟩
  rw [Int.toNat_natCast] at hgood
  have hsm:=h.small
  have hg4:g≤4096:=by omega
  obtain ⟨sa,sc,hlook⟩:=h2.rowLook hg4
  obtain ⟨n,hn⟩:∃n,n=(ofG V.l (g:Int)).length:=⟨_,rfl⟩
  rw [←hn] at hlook hgood
  have hn4:n≤4096:=by rw [hn,←placesOf_len];exact hsm.2.2 _
  have HGood:=Lib.hid hgood
  have HN:=Lib.hid hn
  clear hgood HB HG hn
  go_upto_region 5 with fail
  clear hs hsz cb
  have nvb:V.v≠V.mb:=h2.blk.ne_gmap h2.bm
  have nCb:C≠V.mb:=hc2.cur.ne_gmap h2.bm
  have L0:∀W,But V.mb W2.drew W→∀i,W.cell? ⟨V.v,i,none⟩=(vaultCells V)[i]? :=fun W hW=>(h2.blk.drew.but hW nvb).rule
  have L1:∀W,But V.mb W2.drew W→W.cell? ⟨C,0,none⟩=some (.slice a2 n2 c2):=fun W hW=>(hc2.cur.drew.but hW nCb).cell rfl
  have L2:∀W,But V.mb W2.drew W→(Instr.lookup 90 (.map (some V.mg)) (.int .i64 (g:Int)) false).run Tryz.prog W= .ok (.slice sa n sc) W:=fun W hW=>hlook W (hW.2 V.mg h2.gm.lt h2.ge.2.2.2)
  have hu:IntKind.u64.wrap (n:Int)=(n:Int):=by
   simp only [IntKind.wrap,IntKind.bits,IntKind.signed]
   simp
   omega
  unfold vaultCells at L0
  refine wp_region_treeB V.mb (.step 0 (.step 1 (.step 3 (.step 4 (.step 5 (.step 6 (.step 7 (.step 8 (.step 9 (.step 10 (.step 11 (.step 12 (.step 13 (.step 14 (.step 2 (.step 15 (.step 16 (.step 17 (.step 18 (.step 19 (.step 20 .done))))))))))))))))))))) (by kernel_rfl) (by kernel_rfl) (fun c a d v w h=>by cases d<;>exact h) ?_
  repeat (first|(refine tree_skip rfl (by rfl) ?_;simp only [Act.put,List.setIfInBounds_toArray,List.set])|(refine tree_quiet (v:= ?_) rfl rfl (by rfl) ?_ ?_;rotate_left;(intro W hW;go_simp);(try with_reducible rfl);simp only [Act.put,List.setIfInBounds_toArray,List.set]))
  refine tree_loud rfl rfl (by rfl) (fun K hK=> ?_)
  go_wp2_with fail
  have h2d:VaultAt W2.drew B d V:=h2.old (Below.refl _ _).drew
  refine (vbox_any W2.drew B d V h2d (by have:=hbw2.size;simp;omega) g hg4).mono ?_
  rintro e W3 ⟨bb,bl,rfl,hbx,hv3,ht3⟩
  go_wp2_with fail
  refine hK _ _ ⟨ht3.size,fun x hx hne=>ht3.block x hx hne⟩ ?_
  clear hK K
  have hrest3:BytesAt W3 a2 s2.b:=BytesAt.notMap (w:=W2.drew) hc2.read h2d.bm ht3
  have hX3:¬vrest {V with bl:=bl} X:=fun hv=>by
   rcases hv3.foot' X hv with q|q
   ·have:=(h.ltR q).2;omega
   ·have:=bX2.lt;simp at q;omega
  have hvw3:VOnly B d w V W3 {V with bl:=bl}:=(VOnly.old h hbw2).trans ⟨hv3.turn.undrew',hv3.at',hv3.foot',rfl,rfl,rfl,rfl⟩
  have tw3:Turn (fun x=>x=V.mb) w W3:=(Turn.of_below (F:=fun x=>x=V.mb) hbw2).trans (Turn.off ht3) fun _ q=> .inl q
  have bX3:Blk W3 X zeroDC 40:=(ht3.block X bX2.lt (bX2.ne_gmap h2.bm)).trans bX2
  clear hlook L0 L1 L2
  repeat (first|(refine tree_skip rfl (by rfl) ?_;simp only [Act.put,List.setIfInBounds_toArray,List.set])|(refine tree_quiet (v:= ?_) rfl rfl (by rfl) ?_ ?_;rotate_left;(intro W hW;go_simp);(try with_reducible rfl);simp only [Act.put,List.setIfInBounds_toArray,List.set]))
  refine tree_loud rfl rfl (by rfl) (fun K hK=> ?_)
  go_wp2_with fail
  have co:=sopen_any bb V.m g n a2 n2 c2 s2.b W3 hbx hrest3 hc2.hl hc2.h1 (Nat.lt_of_le_of_lt hg4 (by decide)) (Nat.lt_of_le_of_lt hn4 (by decide)) (Nat.le_trans hc2.max (by decide))
  refine co.mono ?_
  clear co
  rintro e W4 ⟨la,lk,lc,l,er,rfl,hop,hlk,hlr,hb4,hlkc⟩
  go_wp2_with fail
  refine hK _ _ ⟨hb4.size,fun x hx hne=>hb4.block x hx⟩ ?_
  clear hK K
  repeat (first|(refine tree_skip rfl (by rfl) ?_;simp only [Act.put,List.setIfInBounds_toArray,List.set])|(refine tree_quiet (v:= ?_) rfl rfl (by rfl) ?_ ?_;rotate_left;(intro W hW;go_simp);(try with_reducible rfl);simp only [Act.put,List.setIfInBounds_toArray,List.set]))
  refine tree_done ?_
  have hllen:lk≤65536:=by
   have q:=openL_len V.m g n s2.b
   rw [hop] at q
   dsimp only at q
   omega
  have bX4:=bX3.old hb4
  have t4:Turn (fun x=>x=X) W3 W4:=Turn.of_below hb4
  have hgood:=HGood.out
  rw [hop] at hgood
  dsimp only at hgood
  by_cases her:er=0
  rotate_left 1
  ·rw [if_pos her] at hgood
   have hend:=early W4 hgood bX4 bl (hvw3.ext h t4 hXw hX3) (tw3.trans (Turn.of_below hb4) fun _ q=> .inl q)
   have te:(er !=0)=true:=by simpa using her
   go_wp2_with (first|refine wpList_load_blk rfl 40 deedT (.tmp 4) rfl rfl bX4 rfl ?_|refine wpList_store_blk rfl 40 deedT (.tmp 4) _ rfl rfl rfl bX4 rfl rfl (by rfl) ?_)
   refine post_blk_tmp rfl deedT rfl (bX4.setRow _) rfl rfl rfl ?_
   rw [HS.out]
   exact hend
  subst her
  rw [if_neg (by simp)] at hgood
  have cr:=vread_any W4 la lk lc l hlr hlk (by omega) hlkc
  unfold VReadP at cr
  generalize (readD l).1=p at*
  generalize (readD l).2=er at*
  have HU:=Lib.hid hgood
  clear hgood HGood hop hlr
  go_wp2_with fail
  refine cr.mono ?_
  clear cr
  rintro e W5 ⟨hp,rfl,hdo5,hb5⟩
  have bX5:=bX4.old hb5
  rw [deedVal_cells]
  go_upto_region 9 with (refine wpList_store_blk rfl 40 deedT (.tmp 4) _ rfl rfl rfl bX5 rfl rfl (by rfl) ?_)
  have t6:Turn (fun x=>x=X) W3 (W5.setRow X (deedCells p hp).toArray):=by
   refine (t4.trans (Turn.of_below (F:=fun x=>x=X) hb5) fun _ q=> .inl q).trans (G:=fun x=>x=X) ⟨rfl,rfl,rfl,by simp [World.setRow],fun k _ hk=>setRow_other W5 X k _ hk⟩ fun _ q=> .inl q
  refine wp_forget (fun W=>Blk W X (deedCells p hp).toArray 40∧DeedOwn W w.heap.size p hp∧Turn (fun x=>x=X) W3 W) ⟨bX5.setRow _,(hdo5.row1 bX5 (by decide) (by decide) _).lower (by have:=hbw2.size;have:=ht3.size;have:=hb4.size;simp at*;omega),t6⟩ ?_
  rintro W6 ⟨bX6,hdo6,t6⟩
  clear t4 hb4 bX4 hb5 bX5 hdo5
  have hv6:=hvw3.ext h t6 hXw hX3
  have tw6:∀W,Below W6.heap.size W6 W→Turn (fun x=>x=V.mb) w W:=fun W hW=>(tw3.trans t6 fun k hk=> .inr (hk▸hXw)).trans (Turn.of_below (F:=fun x=>x=V.mb) hW) fun _ q=> .inl q
  have hfin:∀W b,Below W6.heap.size W6 W→U=(p,b)→VUnP B d w V load (.returned (.tuple #[.agg (deedCells p hp).toArray,.bool b])) (W.setRow X (deedCells p hp).toArray):=fun W b hW hU=>by
   have bX:Blk W X (deedCells p hp).toArray 40:=bX6.old hW
   rw [bX.setRow_self]
   unfold VUnP
   rw [←HU0.out,hU]
   exact ⟨hp,bl,rfl,hdo6.old hW,hv6.ext h ((Turn.of_below (F:=fun x=>x=X) hW)) hXw hX3,tw6 W hW⟩
  have hsz6:=t6.size
  have M1:∀W,Old W6.drew W→∀j (hj:j<(deedCells p hp).length),W.cell? ⟨X,0+j,none⟩=some (deedCells p hp)[j]:=fun W hW j hj=>(bX6.drew.old hW).cells j hj
  have M2:∀W,Old W6.drew W→W.cell? ⟨X,1,none⟩=some (.int .i64 p.game):=fun W hW=>(bX6.drew.old hW).cell rfl
  have sp:splice (deedCells p hp).toArray 0 (deedCells p hp).toArray=(deedCells p hp).toArray:=rfl
  have hfin':∀W b,Below W6.heap.size W6 W→U=(p,b)→VUnP B d w V load (.returned (.tuple #[.agg (deedCells p hp).toArray,.bool b])) W:=fun W b hW hU=>by
   have:=hfin W b hW hU
   rwa [Blk.setRow_self (bX6.old hW)] at this
  have fin:∀W (a':Act) b,Blk W X (deedCells p hp).toArray 40→a'.tmps.getD 4 undef= .pointer (some ⟨X,0,none⟩)→a'.tmps.getD 5 undef= .bool b→a'.defers=[]→Below W6.heap.size W6 W→U=(p,b)→bodyPost Tryz.prog Tryz.f50 S .ret a' W:=fun W a' b bX e1 e2 e3 hW hU=>by
   refine post_blk_tmp rfl deedT e1 bX rfl e2 e3 ?_
   rw [HS.out]
   exact hfin' W b hW hU
  clear hfin hfin'
  by_cases her:er=0
  rotate_left 1
  ·have te:(er==0)=false:=by simpa using her
   have hu:U=(p,false):=by rw [HU.out,decide_eq_false (fun q=>her q.1)];rfl
   refine wp_region_g (0::1::2::3::4::5::6::7::8::9::10::11::12::13::14::[]) (by kernel_rfl) (by kernel_rfl) (fun c a d v w h=>by cases d<;>exact h) ?_
   refine gex_quiet (v:= .agg (deedCells p hp).toArray) rfl rfl (by rfl) (fun W hW=>exec_load_as 40 deedT _ rfl rfl rfl (M1 W hW) rfl) ?_
   simp only [Act.put,List.setIfInBounds_toArray,List.set]
   repeat (first|(refine gex_skip rfl (by rfl) ?_;simp only [Act.put,List.setIfInBounds_toArray,List.set])|(refine gex_quiet (v:= ?_) rfl rfl (by rfl) ?_ ?_;rotate_left;(intro W hW;go_simp);(try with_reducible rfl);simp only [Act.put,List.setIfInBounds_toArray,List.set]))
   refine gex_loud rfl rfl (by rfl) (fun K hK=> ?_)
   refine wp_store_at 40 deedT _ _ rfl rfl rfl bX6.drew rfl (Nat.le_refl 15) (by rfl) ?_
   rw [sp,Blk.setRow_self bX6.drew]
   refine hK _ _ (Below.refl _ _) ?_
   clear hK K
   repeat (first|(refine gex_skip rfl (by rfl) ?_;simp only [Act.put,List.setIfInBounds_toArray,List.set])|(refine gex_quiet (v:= ?_) rfl rfl (by rfl) ?_ ?_;rotate_left;(intro W hW;go_simp);(try with_reducible rfl);simp only [Act.put,List.setIfInBounds_toArray,List.set]))
   refine gex_nil ?_
   go_wp2_with fail
   exact fin _ _ false bX6.drew rfl rfl rfl (Below.refl _ _).drew hu
  subst her
  by_cases hgm:p.game=(g:Int)
  rotate_left 1
  ·have te:(p.game==(g:Int))=false:=by simpa using hgm
   have hu:U=(p,false):=by rw [HU.out,decide_eq_false (fun q=>hgm q.2)];rfl
   refine wp_region_g (0::1::2::3::4::5::6::7::8::9::10::11::12::13::14::[]) (by kernel_rfl) (by kernel_rfl) (fun c a d v w h=>by cases d<;>exact h) ?_
   refine gex_quiet (v:= .agg (deedCells p hp).toArray) rfl rfl (by rfl) (fun W hW=>exec_load_as 40 deedT _ rfl rfl rfl (M1 W hW) rfl) ?_
   simp only [Act.put,List.setIfInBounds_toArray,List.set]
   repeat (first|(refine gex_skip rfl (by rfl) ?_;simp only [Act.put,List.setIfInBounds_toArray,List.set])|(refine gex_quiet (v:= ?_) rfl rfl (by rfl) ?_ ?_;rotate_left;(intro W hW;go_simp);(try with_reducible rfl);simp only [Act.put,List.setIfInBounds_toArray,List.set]))
   refine gex_loud rfl rfl (by rfl) (fun K hK=> ?_)
   refine wp_store_at 40 deedT _ _ rfl rfl rfl bX6.drew rfl (Nat.le_refl 15) (by rfl) ?_
   rw [sp,Blk.setRow_self bX6.drew]
   refine hK _ _ (Below.refl _ _) ?_
   clear hK K
   repeat (first|(refine gex_skip rfl (by rfl) ?_;simp only [Act.put,List.setIfInBounds_toArray,List.set])|(refine gex_quiet (v:= ?_) rfl rfl (by rfl) ?_ ?_;rotate_left;(intro W hW;go_simp);(try with_reducible rfl);simp only [Act.put,List.setIfInBounds_toArray,List.set]))
   refine gex_nil ?_
   go_wp2_with fail
   exact fin _ _ false bX6.drew rfl rfl rfl (Below.refl _ _).drew hu
  have hu:U=(p,followsD V.l p):=by rw [HU.out,decide_eq_true ⟨rfl,hgm⟩,Bool.true_and]
  have te:(p.game==(g:Int))=true:=by simpa using hgm
  have HGM:=Lib.hid hgm
  clear hgm
  refine wp_region_g (0::1::2::3::4::5::6::7::8::9::10::11::12::13::14::[]) (by kernel_rfl) (by kernel_rfl) (fun c a d v w h=>by cases d<;>exact h) ?_
  refine gex_quiet (v:= .agg (deedCells p hp).toArray) rfl rfl (by rfl) (fun W hW=>exec_load_as 40 deedT _ rfl rfl rfl (M1 W hW) rfl) ?_
  simp only [Act.put,List.setIfInBounds_toArray,List.set]
  repeat (first|(refine gex_skip rfl (by rfl) ?_;simp only [Act.put,List.setIfInBounds_toArray,List.set])|(refine gex_quiet (v:= ?_) rfl rfl (by rfl) ?_ ?_;rotate_left;(intro W hW;go_simp);(try with_reducible rfl);simp only [Act.put,List.setIfInBounds_toArray,List.set]))
  refine gex_loud rfl rfl (by rfl) (fun K hK=> ?_);go_wp2_with fail
  refine (vfollows_any W6.drew B d _ (hv6.at'.old (Below.refl _ _).drew) X p hp bX6.drew).mono ?_
  rintro e W7 ⟨rfl,hb7⟩
  go_wp2_with fail
  refine hK _ _ hb7 ?_
  clear hK K
  have bX7:Blk W7 X (deedCells p hp).toArray 40:=bX6.drew.old hb7
  have hb67:Below W6.heap.size W6 W7:=⟨hb7.os,hb7.tape,hb7.output,hb7.size,hb7.block⟩
  obtain ⟨fo,hfo⟩:∃fo,fo=followsD ({V with bl:=bl}:VaultR).l p:=⟨_,rfl⟩
  rw [←hfo]
  replace hu:U=(p,fo):=by rw [hu,hfo];rfl
  clear hfo
  cases fo
  all_goals
   repeat (first|(refine gex_skip rfl (by rfl) ?_;simp only [Act.put,List.setIfInBounds_toArray,List.set])|(refine gex_quiet (v:= ?_) rfl rfl (by rfl) ?_ ?_;rotate_left;(intro W hW;go_simp);(try with_reducible rfl);simp only [Act.put,List.setIfInBounds_toArray,List.set]))
   refine gex_loud rfl rfl (by rfl) (fun K hK=> ?_)
   refine wp_store_at 40 deedT _ _ rfl rfl rfl bX7 rfl (Nat.le_refl 15) (by rfl) ?_
   rw [sp,Blk.setRow_self bX7]
   refine hK _ _ (Below.refl _ _) ?_
   clear hK K
   repeat (first|(refine gex_skip rfl (by rfl) ?_;simp only [Act.put,List.setIfInBounds_toArray,List.set])|(refine gex_quiet (v:= ?_) rfl rfl (by rfl) ?_ ?_;rotate_left;(intro W hW;go_simp);(try with_reducible rfl);simp only [Act.put,List.setIfInBounds_toArray,List.set]))
   refine gex_nil ?_
   go_wp2_with fail
   exact fin _ _ _ bX7 rfl rfl rfl hb67 hu
end
section
open Go.RowKit
theorem scans_split {b:List UInt8} (h:scans b=true):b=record (loadOf b)++b.drop (8+scanN b)∧1≤(loadOf b).length∧(loadOf b).length≤65536:=by
 unfold scans at h
 simp only [Bool.and_eq_true,decide_eq_true_iff,beq_iff_eq] at h
 obtain ⟨⟨⟨⟨h1,h2⟩,h3⟩,h4⟩,h5⟩:=h
 have hl:=loadOf_length h4
 refine ⟨?_,by omega,by omega⟩
 unfold record
 rw [←h5]
 have e:loadOf b=(b.drop 8).take (scanN b):=rfl
 rw [e,List.append_assoc,←List.drop_drop,List.take_append_drop,List.take_append_drop]
theorem scan_spec:∀(f:Nat) (b:List UInt8),b=records (scan f b).1++(scan f b).2∧Fair (scan f b).1
 |0,b=>⟨by simp [scan,records],by intro x hx;simp [scan] at hx⟩
 |f+1,b=>by
  by_cases h:scans b=true
  ·obtain ⟨h1,h2,h3⟩:=scans_split h
   obtain ⟨i1,i2⟩:=scan_spec f (b.drop (8+scanN b))
   rw [scan_step h]
   refine ⟨?_,?_⟩
   ·show b=records (loadOf b::(scan f (b.drop (8+scanN b))).1)++(scan f (b.drop (8+scanN b))).2
    rw [show records (loadOf b::(scan f (b.drop (8+scanN b))).1)=record (loadOf b)++records (scan f (b.drop (8+scanN b))).1 by simp [records],List.append_assoc,←i1]
    exact h1
   ·intro x hx
    rcases List.mem_cons.1 hx with rfl|hx
    ·exact ⟨h2,h3⟩
    ·exact i2 x hx
  ·have h:scans b=false:=by simpa using h
   rw [scan_stop h]
   exact ⟨by simp [records],by intro x hx;cases hx⟩
theorem find_updP (p:DiskP) (nm:Name) (g:FileP→FileP) (hg:∀f,(g f).name=f.name):findP (updP p nm g) nm=(findP p nm).map g:=by
 unfold findP updP updF
 dsimp only
 induction p.fs with
 |nil=>rfl
 |cons x l ih=>
  rw [List.map_cons,List.find?_cons,List.find?_cons]
  by_cases h:x.name=nm
  ·rw [if_pos h]
   simp [hg,h]
  ·rw [if_neg h]
   simp only [h,decide_false]
   exact ih
theorem goes_ok {p:DiskP} (h:(goesP p).2=0):(goesP p).1.fs=p.fs∧(goesP p).1.down=p.down:=by
 unfold goesP at h⊢
 by_cases h1:p.armed=false
 ·rw [if_pos h1];exact ⟨rfl,rfl⟩
 ·rw [if_neg h1] at h⊢
  by_cases h2:0<p.left
  ·rw [if_pos h2];exact ⟨rfl,rfl⟩
  ·rw [if_neg h2] at h;cases h
theorem may_ok {p:DiskP} {nm:Name} {g:FileP→DiskP×Int} (h:(mayP p nm g).2=0):p.down=false∧∃f,findP p nm=some f∧mayP p nm g=g f:=by
 unfold mayP at h⊢
 cases hd:p.down with
 |true=>rw [hd] at h;cases h
 |false=>
  rw [hd] at h
  cases hf:findP p nm with
  |none=>rw [hf] at h;cases h
  |some f=>exact ⟨rfl,f,rfl,rfl⟩
theorem readP_of {p:DiskP} {nm:Name} {f:FileP} (hd:p.down=false) (hf:findP p nm=some f):readP p nm=(f.b,0):=by
 unfold readP
 rw [hd,hf]
 rfl
theorem sync_ok {p:DiskP} {nm:Name} (h:(syncP p nm).2=0):∃f,findP p nm=some f∧p.down=false∧readP (syncP p nm).1 nm=(f.b,0):=by
 obtain ⟨hd,f,hf,e⟩:=may_ok h
 have e:syncP p nm=_:=e
 rw [e] at h⊢
 try dsimp only at h⊢
 by_cases hg:(goesP p).2=0
 ·rw [if_pos hg]
  obtain ⟨g1,g2⟩:=goes_ok hg
  have hf2:findP (goesP p).1 nm=some f:=by unfold findP at hf⊢;rw [g1];exact hf
  refine ⟨f,hf,hd,?_⟩
  refine readP_of (f:={f with sure:=f.b.length}) ?_ ?_
  ·show (goesP p).1.down=false
   rw [g2];exact hd
  ·exact (find_updP (goesP p).1 nm (fun f=>{f with sure:=f.b.length}) (fun _=>rfl)).trans (by rw [hf2];rfl)
 ·rw [if_neg hg] at h
  exact absurd h hg
theorem cut_ok {p:DiskP} {nm:Name} {n:Int} (h:(cutP p nm n).2=0):∃f,findP p nm=some f∧p.down=false∧0≤n∧n≤(f.b.length:Int)∧readP (cutP p nm n).1 nm=(f.b.take n.toNat,0):=by
 obtain ⟨hd,f,hf,e⟩:=may_ok h
 have e:cutP p nm n=_:=e
 rw [e] at h⊢
 try dsimp only at h⊢
 by_cases hg:n<0∨(f.b.length:Int)<n
 ·rw [if_pos hg] at h;cases h
 ·rw [if_neg hg]
  refine ⟨f,hf,hd,by omega,by omega,?_⟩
  refine readP_of (f:={f with b:=f.b.take n.toNat,sure:=n.toNat}) hd ?_
  exact (find_updP p nm (fun f=>{f with b:=f.b.take n.toNat,sure:=n.toNat}) (fun _=>rfl)).trans (by rw [hf];rfl)
theorem make_ok {p:DiskP} {nm:Name} (h:(makeP p nm).2=0):readP (makeP p nm).1 nm=([],0):=by
 unfold makeP at h⊢
 split at h
 ·cases h
 ·rename_i hd
  split at h
  ·cases h
  ·rename_i hn
   split at h
   ·cases h
   ·rename_i hs
    split at h
    ·cases h
    ·rename_i hc
     rw [if_neg hd,if_neg hn,if_neg hs,if_neg hc]
     refine readP_of (f:=⟨nm,[],0⟩) (by simpa using hd) ?_
     unfold findP at hs⊢
     dsimp only
     rw [List.find?_append]
     cases hf:p.fs.find? (fun f=>decide (f.name=nm)) with
     |none=>simp
     |some f=>rw [hf] at hs;simp at hs
theorem readP_code (p:DiskP) (nm:Name) (h:(readP p nm).2≠0):(readP p nm).1=[]:=by
 unfold readP at h⊢
 cases hd:p.down with
 |true=>rfl
 |false=>
  rw [hd] at h
  cases hf:findP p nm with
  |none=>rfl
  |some f=>rw [hf] at h;simp at h
theorem open_reads {p:DiskP} {nm:Name} (h:openE p nm=0):readP (openD p nm) nm=(records (openB p nm).1,0)∧Fair (openB p nm).1∧(openB p nm).1.length≤4096:=by
 have hM:(openMk p nm).2=0:=by
  by_cases e:(openMk p nm).2=0
  ·exact e
  ·rw [(openE_mk e).1] at h;exact absurd h e
 have hC:(openCut p nm).2=0:=by
  by_cases e:(openCut p nm).2=0
  ·exact e
  ·rw [(openE_cut hM e).1] at h;exact absurd h e
 have hS:=openE_sync hM hC
 rw [hS.1] at h
 rw [hS.2]
 have hsp:=scan_spec most (readP p nm).1
 have hB:(openB p nm)=scan most (readP p nm).1:=rfl
 rw [←hB] at hsp
 refine ⟨?_,hsp.2,by rw [hB];have:=scan_count most (readP p nm).1;rw [most_is] at this⊢;exact this⟩
 have hr0:readP (openMk p nm).1 nm=((readP p nm).1,0):=by
  unfold openMk at hM⊢
  by_cases e4:(readP p nm).2=4
  ·rw [if_pos e4] at hM⊢
   rw [make_ok hM,readP_code p nm (by rw [e4];decide)]
  ·rw [if_neg e4] at hM⊢
   dsimp only at hM⊢
   rw [←hM]
 obtain ⟨f,hf,hd,hrd⟩:=sync_ok (show (syncP (openCut p nm).1 nm).2=0 from h)
 have e1:readP (openSync p nm).1 nm=(f.b,0):=hrd
 rw [e1]
 have e2:readP (openCut p nm).1 nm=(f.b,0):=readP_of hd hf
 by_cases h0:(openB p nm).2.length=0
 ·have e3:openCut p nm=((openMk p nm).1,0):=by unfold openCut;rw [if_pos h0]
  rw [e3] at e2
  rw [hr0] at e2
  have e4:=(Prod.mk.inj e2).1
  rw [←e4]
  have:(openB p nm).2=[]:=List.eq_nil_of_length_eq_zero h0
  rw [this,List.append_nil] at hsp
  rw [←hsp.1]
 ·have e3:openCut p nm=cutP (openMk p nm).1 nm ((((readP p nm).1.length-(openB p nm).2.length:Nat)):Int):=by unfold openCut;rw [if_neg h0]
  rw [e3] at e2 hC
  obtain ⟨f2,hf2,hd2,hn0,hn1,hrd2⟩:=cut_ok hC
  rw [hrd2] at e2
  have e4:=(Prod.mk.inj e2).1
  rw [←e4]
  have e5:=readP_of hd2 hf2
  rw [hr0] at e5
  rw [←(Prod.mk.inj e5).1,Int.toNat_natCast]
  have hlen:(readP p nm).1.length=(records (openB p nm).1).length+(openB p nm).2.length:=by
   conv=>lhs;rw [hsp.1]
   rw [List.length_append]
  rw [hlen,Nat.add_sub_cancel]
  conv=>lhs;rw [hsp.1]
  rw [List.take_left]
theorem open_again {p:DiskP} {nm:Name} (h:openE p nm=0) (k:Nat) (hc:(cutP (openD p nm) nm ((records ((openB p nm).1.take k)).length:Int)).2=0):
  openB (cutP (openD p nm) nm ((records ((openB p nm).1.take k)).length:Int)).1 nm=((openB p nm).1.take k,[]):=by
 obtain ⟨h1,h2,h3⟩:=open_reads h
 obtain ⟨f,hf,hd,hn0,hn1,hrd⟩:=cut_ok hc
 have e5:=readP_of hd hf
 rw [h1] at e5
 rw [←(Prod.mk.inj e5).1,Int.toNat_natCast] at hrd
 generalize hls0:(openB p nm).1=ls at*
 have hls:records ls=records (ls.take k)++records (ls.drop k):=by
  unfold records
  rw [←List.flatten_append,←List.map_append,List.take_append_drop]
 have e6:(records ls).take (records (ls.take k)).length=records (ls.take k):=by
  conv=>lhs;rw [hls]
  rw [List.take_left]
 have hsc:=scan_records most (ls.take k) [] (fun x hx=>h2 x (List.mem_of_mem_take hx)) (by rw [most_is,List.length_take];omega)
 have e0:scan (most-(ls.take k).length) []=([],[]):=scan_stop (scans_short (by simp))
 rw [List.append_nil,e0] at hsc
 simp only [List.append_nil] at hsc
 show scan most (readP (cutP (openD p nm) nm ((records (ls.take k)).length:Int)).1 nm).1=_
 rw [hrd]
 dsimp only
 rw [e6]
 exact hsc
def vopL (p:DiskP) (nm:Name) (m:List UInt8):List DeedP:=scanV m [] (openB p nm).1
def vopAt (p:DiskP) (nm:Name) (m:List UInt8):Nat:=(records ((openB p nm).1.take (vopL p nm m).length)).length
def vopCut (p:DiskP) (nm:Name) (m:List UInt8):DiskP×Int:=cutP (openD p nm) nm (vopAt p nm m:Int)
def vopFull (p:DiskP) (nm:Name) (m:List UInt8):Bool:=decide ((vopL p nm m).length=(openB p nm).1.length)
def vopE (p:DiskP) (nm:Name) (m:List UInt8):Int:=if openE p nm≠0 then openE p nm else if vopFull p nm m then 0 else if (vopCut p nm m).2≠0 then (vopCut p nm m).2 else openE (vopCut p nm m).1 nm
def vopD (p:DiskP) (nm:Name) (m:List UInt8):DiskP:=if openE p nm≠0 then openD p nm else if vopFull p nm m then openD p nm else if (vopCut p nm m).2≠0 then (vopCut p nm m).1 else openD (vopCut p nm m).1 nm
def vopN (p:DiskP) (nm:Name) (m:List UInt8):Nat:=if vopFull p nm m then openN p nm else openN p nm+((records (openB p nm).1).length-vopAt p nm m)
def vopLs (p:DiskP) (nm:Name) (m:List UInt8):List (List UInt8):=(openB p nm).1.take (vopL p nm m).length
theorem unload_ok {m:List UInt8} {l:List DeedP} {load:List UInt8} (h:(unloadV m l load).2=true):mayD (unloadV m l load).1=true∧followsD l (unloadV m l load).1=true:=by
 unfold unloadV at h⊢
 dsimp only at h⊢
 split at h
 ·cases h
 ·rename_i h1
  rw [if_neg h1]
  split at h
  ·cases h
  ·rename_i h2
   rw [if_neg h2]
   simp only [Bool.and_eq_true,decide_eq_true_iff] at h
   obtain ⟨⟨h3,h4⟩,h5⟩:=h
   refine ⟨?_,h5⟩
   exact (read_fwd (p:=(readD (openL m (numC ⟨load,false⟩).1.toNat (ofG l (numC ⟨load,false⟩).1).length (numC ⟨load,false⟩).2.b).1).1) (Prod.ext rfl h3)).1
end
section
open Go Go.RowKit
variable {F:Fence} {n:Nat} {P:Program} {w:World}
def SeqStopsM {α:Type} (F:Fence) (n:Nat) (P:Program) (g:Nat) (lb:Array Value) (encs:α→Array Value) (M:List α→α→World→Prop) (Kp:World→World→Prop) (S Sp:List α→Prop) (w:World):Prop:=
 ∀(l:Nat) (J Jx:List α→World→Prop) (W:World),Below w.heap.size w W→AbidesFrom W.heap.size J→AbidesFrom W.heap.size Jx→
  (∀pre x W1,J pre W1→M pre x W1→YieldAt F (n-1) P l (encs x) W1 fun e W'=>
   (e= .returned (.bool true)∧J (pre++ [x]) W'∧Kp W1 W')∨(e= .returned (.bool false)∧Jx (pre++ [x]) W'))→
  J [] W→
  CallsIn F n P g (#[.func (.yield l) #[] #[]]++lb) W fun e W'=>(∃v,e= .returned v)∧((∃xs,S xs∧J xs W')∨(∃pre,Sp pre∧Jx pre W'))
structure Held {α:Type} (I:List α→World→Prop) (b:Nat) (r:Loop) (pre:List α) (W:World):Prop where
 own:I pre W
 rcd:W.heap[b+1]? =some (.loop r)
 dfr:W.heap[b]? =some (.deferred (some []))
theorem Held.abides {α:Type} {I:List α→World→Prop} {b:Nat} {r:Loop} (hI:OwnFrom b I) {B:Nat} (hB:b≤B):AbidesFrom B (Held I b r):=fun s X Y row hs hg hr=>
 ⟨hI s X Y row hs.own hg fun q e=>by obtain ⟨h1,o,ho,hw⟩:=hr q e;exact ⟨Nat.le_trans hB h1,o,ho,Obj.not_cells_of_walk hw⟩,(grownBy_keeps hg (fun q e=>(hr q e).2) hs.rcd rfl).trans hs.rcd,(grownBy_keeps hg (fun q e=>(hr q e).2) hs.dfr rfl).trans hs.dfr⟩
theorem Held.turn {α:Type} {I:List α→World→Prop} {b:Nat} {r:Loop} {pre:List α} {W:World} (hI:OwnFrom b I) (h:Held I b r pre W) (r':Loop):Held I b r' pre (W.putObj (b+1) (.loop r')):=
 ⟨hI.putObj _ h.own (by omega) h.rcd rfl,World.putObj_heap_same (Array.getElem?_eq_some_iff.1 h.rcd).1,(World.putObj_heap_other (by omega)).trans h.dfr⟩
theorem wpIn_rangeFunc_ownM {α:Type} {g:Operand} {ps:Array Tmp} {assign body:Code} {Q:Exit→Act→World→Prop} {a:Act}
  (hro:F.round=none) (h1:1≤n) {gf:Nat} {lb:Array Value} (hg:a.eval g= .func (.func gf) #[] lb) (hFg:F.fn gf) (eg:∀args w,(callFunc gf args).run P w= .ok (.enter gf args) w)
  {encs:α→Array Value} {M:List α→α→World→Prop} {Kp:World→World→Prop} {S Sp:List α→Prop} {w0:World} (hseq:SeqStopsM F (n-1) P gf lb encs M Kp S Sp w0)
  (hM:OwnFrom w.heap.size (fun (p:List α×α) W=>M p.1 p.2 W))
  (hKt:∀{A B C:World},Kp A B→Kp B C→Kp A C) (hKb:∀(W:World) (l:Nat) (o o':Obj),w.heap.size≤l→W.heap[l]? =some o→o.isCells=false→o.isWalk=false→Kp W (W.putObj l o')) (hb0:Below w0.heap.size w0 w) (hps:∀x,(encs x).size=ps.size)
  (I:List α→World→Prop) (Ix:Code→List α→World→Prop) (hI:OwnFrom w.heap.size I) (hIx:∀c,OwnFrom w.heap.size (Ix c)) (h0:I [] w) (a₁:α→Act)
  (hassign:∀(l:Nat) (x:α) (W:World) (K:Act→World→Prop),K (a₁ x) W→
   assign.wpIn (F.inRound l) (n-1-1) P (Exit.then K (fun _ _ _=>False)) {tmps:=(ps.zip (encs x)).foldl (fun t (p,v)=>t.setIfInBounds p v) a.tmps,defers:=[]} W)
  (hbody:∀(l:Nat) (pre:List α) (x:α) (W:World),I pre W→M pre x W→body.wpIn (F.inRound l) (n-1-1) P (ownPostG w.heap.size Kp I Ix (pre++ [x]) W) (a₁ x) W)
  (hdone:∀(D:Nat) (xs:List α) (W:World),w.heap.size≤D→S xs→I xs W→W.heap[D]? =some (.deferred (some []))→Q .normal {a with defers:={target:= .collected D,args:= #[]}::a.defers} W)
  (hstop:∀(D:Nat) (c:Code) (pre:List α) (W:World),w.heap.size≤D→Sp pre→Ix c pre W→W.heap[D]? =some (.deferred (some []))→c.wpIn F n P Q {a with defers:={target:= .collected D,args:= #[]}::a.defers} W):
  (Code.rangeFunc g ps assign body).wpIn F n P Q a w:=by
 refine wpIn_rangeFunc fun fn hfn=> ?_
 rw [hro]
 obtain ⟨R,hR⟩:∃R:LoopState→Option Code→Loop,∀st pe,R st pe={state:=st,pending:=pe,fn,tmps:=a.tmps,params:=ps,assign,body,defers:=w.heap.size}:=⟨_,fun _ _=>rfl⟩
 have start:Held I w.heap.size (R .ready none) [] ((w.alloc (.deferred (some []))).alloc (.loop (R .ready none))):=
  ⟨hI.alloc _ (hI.alloc _ h0),by have:=World.alloc_heap_new (w.alloc (.deferred (some []))) (.loop (R .ready none));rwa [World.size_alloc] at this,(Below.heap_alloc _ _ _ (by simp)).trans (World.alloc_heap_new w _)⟩
 have bel:Below w0.heap.size w0 ((w.alloc (.deferred (some []))).alloc (.loop (R .ready none))):=hb0.trans ((((Below.refl _ w).alloc (Nat.le_refl _) _).alloc (by simp) _).mono hb0.size)
 have big:w.heap.size≤((w.alloc (.deferred (some []))).alloc (.loop (R .ready none))).heap.size:=by simp;omega
 refine ⟨w.heap.size+1,[{target:= .collected w.heap.size,args:= #[]}],((w.alloc (.deferred (some []))).alloc (.loop (R .ready none))),{target:= .fn (.func gf) lb,args:= #[.func (.yield (w.heap.size+1)) #[] #[]]},(w.alloc (.deferred (some []))).alloc (.loop (R .ready none)),gf,
  #[.func (.yield (w.heap.size+1)) #[] #[]]++lb,((w.alloc (.deferred (some []))).alloc (.loop (R .ready none))),by rw [hR];exact run_enterLoop_outer _ _ _ _ _,by simp only [resolve,hg];simp [go_sem],fun f' hf'=>by simp [Target.leads] at hf';subst hf';exact hFg,by simp [invoke,go_sem,eg],fun _=>h1,?_⟩
 have one:∀pre x W,Held I w.heap.size (R .ready none) pre W→M pre x W→YieldAt F (n-1-1) P (w.heap.size+1) (encs x) W fun e W'=>
   (e= .returned (.bool true)∧Held I w.heap.size (R .ready none) (pre++ [x]) W'∧Kp W W')∨(e= .returned (.bool false)∧∃c,Held (Ix c) w.heap.size (R .done (some c)) (pre++ [x]) W'):=by
  intro pre x W h hm
  have hy:=run_yield (P:=P) (args:=encs x) h.rcd (by rw [hR];exact hps x)
  rw [hR] at hy
  refine ⟨fn,_,assign,body,hy,roundIn_of_wpIn hfn (hassign _ x W _ ⟨_,run_beginRound h.rcd (by rw [hR]),?_⟩)⟩
  have h2:=h.turn hI {R .ready none with state:= .busy}
  have m2:M pre x (W.putObj (w.heap.size+1) (.loop {R .ready none with state:= .busy})):=hM.putObj (s:=(pre,x)) _ hm (by omega) h.rcd rfl
  have k2:=hKb W _ _ (.loop {R .ready none with state:= .busy}) (Nat.le_succ w.heap.size) h.rcd rfl rfl
  refine wpIn_mono (hbody _ pre x _ h2.own m2) ?_
  have fin:∀(jump:Option Code) (W3:World),KeepsFrom w.heap.size (W.putObj (w.heap.size+1) (.loop {R .ready none with state:= .busy})) W3→∀(I':List α→World→Prop),OwnFrom w.heap.size I'→I' (pre++ [x]) W3→
    (Instr.endRound (w.heap.size+1) jump).run P W3= .ok (.bool jump.isNone) (W3.putObj (w.heap.size+1) (.loop (R (if jump.isNone then .ready else .done) jump)))∧W3.heap[w.heap.size+1]? =some (.loop {R .ready none with state:= .busy})∧
    Held I' w.heap.size (R (if jump.isNone then .ready else .done) jump) (pre++ [x]) (W3.putObj (w.heap.size+1) (.loop (R (if jump.isNone then .ready else .done) jump))):=fun jump W3 hk I' hI' hi=>by
   have h3:Held I' w.heap.size {R .ready none with state:= .busy} (pre++ [x]) W3:=⟨hi,hk.same _ _ (by omega) h2.rcd rfl,hk.same _ _ (Nat.le_refl _) h2.dfr rfl⟩
   have hr3:=h3.rcd
   have:=run_endRound (P:=P) jump h3.rcd
   refine ⟨?_,h3.rcd,h3.turn hI' _⟩
   rw [hR] at this⊢
   exact this
  rintro e a3 W3 hp
  cases e with
  |normal=>
   obtain ⟨hk3,hkp3,hi3⟩:=hp
   obtain ⟨hr,hl3,h4⟩:=fin none W3 hk3 I hI hi3
   exact ⟨_,_,hr,.inl ⟨rfl,h4,hKt (hKt k2 hkp3) (hKb _ _ _ _ (by omega) hl3 rfl rfl)⟩⟩
  |ret=>exact ⟨_,_,(fin (some .ret) W3 hp.1 _ (hIx _) hp.2).1,.inr ⟨rfl,_,(fin (some .ret) W3 hp.1 _ (hIx _) hp.2).2.2⟩⟩
  |exit id=>exact ⟨_,_,(fin (some (.exit id)) W3 hp.1 _ (hIx _) hp.2).1,.inr ⟨rfl,_,(fin (some (.exit id)) W3 hp.1 _ (hIx _) hp.2).2.2⟩⟩
  |goto t=>exact ⟨_,_,(fin (some (.goto t)) W3 hp.1 _ (hIx _) hp.2).1,.inr ⟨rfl,_,(fin (some (.goto t)) W3 hp.1 _ (hIx _) hp.2).2.2⟩⟩
  |panic ch=>exact hp.elim
  |outgrown=>exact hp.elim
 refine (hseq (w.heap.size+1) (Held I w.heap.size (R .ready none)) (fun pre W=>∃c,Held (Ix c) w.heap.size (R .done (some c)) pre W) _ bel (Held.abides hI big) (fun s X Y row hs hg' hr=>by obtain ⟨c,hc⟩:=hs;exact ⟨c,Held.abides (hIx c) big s X Y row hc hg' hr⟩) one start).mono ?_
 rintro e W2 ⟨⟨v,rfl⟩,(⟨xs,hS,h⟩|⟨pre,hSp,c,h⟩)⟩
 ·refine ⟨none,_,by have:=run_endLoop (P:=P) h.rcd (by rw [hR];simp);rw [hR] at this;exact this,?_⟩
  exact hdone _ xs _ (Nat.le_refl _) hS (hI.putObj _ h.own (by omega) h.rcd rfl) ((World.putObj_heap_other (by omega)).trans h.dfr)
 ·refine ⟨some c,_,by have:=run_endLoop (P:=P) h.rcd (by rw [hR];simp);rw [hR] at this;exact this,?_⟩
  exact hstop _ c pre _ (Nat.le_refl _) hSp ((hIx c).putObj _ h.own (by omega) h.rcd rfl) ((World.putObj_heap_other (by omega)).trans h.dfr)
end
section
open Go.RowKit
def noDefer (o:Oper):Bool:=match o.op with
 | .defer _=>false
 |_=>true
section
variable {n l:Nat} {P:Program} {ops:Array Oper} {Q:Exit→Act→World→Prop} {md:Region.Mode}
theorem oper_round {o:Oper} {a:Act} {w:World} {K:Act→World→Prop} (hd:noDefer o=true) (h:o.wp P a w K Q):o.wpIn (Fence.wide.inRound l) n P a w K Q:=by
 have hs:o.semAt (Fence.wide.inRound l).round a.eval=execOp a.eval o:=Oper.semAt_eq _ _ _ (fun c e=>by simp [noDefer,e] at hd)
 refine ⟨fun _ _=>trivial,?_⟩
 rw [hs]
 unfold Oper.wp at h
 generalize (execOp a.eval o).run P w=r at*
 cases r with
 |ok x w'=>
  cases x<;>simp only [Oper.upon] at h<;>simp only [Oper.uponIn]
  case value=>exact h
  case skip=>exact h
  case defer=>exact h
  case enter f args=>exact ⟨fun e=>by simp [Fence.wide] at e,(callsIn_wide (n:=n-1)).2 h⟩
  case row row args=>exact ⟨fun e=>by simp [Fence.wide] at e,fun c cs _=>let ⟨v,w',r,s⟩:=h c cs;⟨v,w',r,(stepsIn_wide (P:=P)).2 s⟩⟩
 |halt x w'=>cases x<;>simp only [Oper.upon] at h<;>simp only [Oper.uponIn]<;>exact h
end
end
end Go.Proofs.YtioigihakjlopaaGreat

/- Texts put together and cut to what is used: VaultK2, VaultD. -/
import Derived.Test.YtioigihakjlopaaGreatVB31
namespace Go.Proofs.YtioigihakjlopaaGreat
set_option linter.unusedVariables false
set_option linter.unusedSimpArgs false
section
open Go.RowKit Go.Maps
set_option maxRecDepth 20000
theorem deed_fold (x:DeedP) (h:DeedH):List.foldl (fun (cs:Array Value) (x:Value×Nat)=>cs.setIfInBounds x.snd x.fst) #[.int .i8 0,.int .i64 0,.int .i64 0,.string ⟨#[]⟩,.string ⟨#[]⟩,.string ⟨#[]⟩,.slice none 0 0,.slice none 0 0,.slice none 0 0,.int .i8 0,.int .i64 0,.int .i64 0,.int .i64 0,.slice none 0 0,.slice none 0 0] (deedCells x h).zipIdx=(deedCells x h).toArray:=by
 simp [deedCells,List.zipIdx]
theorem below_drop {w w':World} (h:Below w.drew.heap.size w.drew w'):Below w.heap.size w w':=⟨h.os,h.tape,h.output,h.size,h.block⟩
def VKeepP (B d:Nat) (w:World) (V:VaultR) (x:DeedP) (e:Ending) (w':World):Prop:=∃V':VaultR,e= .returned (.tuple #[])∧VOnly B d w V w' V'∧V'.l=V.l++ [x]∧V'.mg=V.mg∧V'.mb=V.mb
theorem VaultAt.rowOf {w:World} {B d:Nat} {V:VaultR} (h:VaultAt w B d V) {x:DeedP} {g:Nat} (hg:x.game=(g:Int)) (hf:followsD V.l x=true) (hz:wf64 x.game):
  ∃(sa:Option Addr) (sc:Nat),(∀W,W.heap[V.mg]? =w.heap[V.mg]?→(Instr.lookup 90 (.map (some V.mg)) (.int .i64 (g:Int)) false).run Tryz.prog W= .ok (.slice sa (placesOf V.l (g:Int)).length sc) W)∧Own w B 3 1 sa (placesOf V.l (g:Int)).length sc (placesV V.l g)∧(∀ad,sa=some ad→g<gamesN V.l∧ad.block=V.f g):=by
 by_cases hgl:g<gamesN V.l
 ·refine ⟨some ⟨V.f g,0,none⟩,V.fc g,fun W hW=> ?_,h.rows g hgl,fun ad e=>by cases e;exact ⟨hgl,rfl⟩⟩
  have hk:=keyOfV (n:=g) (by have:=h.small.2.1;omega)
  obtain ⟨v,ps,hr,hv⟩:=(h.gm.keep hW).look keyIv Tryz.underlying90 (zeroRow W) (show Rs (.slice none 0 0)=some (.agg [],[]) from rfl) hk (entsG_mem hgl)
  rw [hr,Rs_inv hv]
 ·have hno:placesOf V.l (g:Int)=[]:=by
   have:=h.good.none (g:=(g:Int)) (by omega)
   have h2:=placesOf_len V.l (g:Int)
   rw [this] at h2
   exact List.eq_nil_of_length_eq_zero h2
  have e2:placesV V.l g=[]:=by unfold placesV;rw [hno];rfl
  rw [hno,e2]
  refine ⟨none,0,fun W hW=> ?_,Own.nil _ _ _ _,fun ad e=>by cases e⟩
  have hk:keyOf Tryz.prog 3 (.int .i64 (g:Int))=some (keyV g):=keyOf_int_mk Tryz.underlying3 (by rw [←hg];exact hz)
  obtain ⟨v,ps,hr,hv⟩:=(h.gm.keep hW).look_no keyIv Tryz.underlying90 (zeroRow W) (show Rs (.slice none 0 0)=some (.agg [],[]) from rfl) hk (entsG_no (by omega))
  rw [hr,Rs_zero hv]
  rfl
set_option maxHeartbeats 4000000 in
theorem vkeep_any (w:World) (B d:Nat) (V:VaultR) (h:VaultAt w B d V) (hB:B≤w.heap.size) (x:DeedP) (hx:DeedH) (hda:∀W,Turn (vrest V) w W→DeedAt W x hx) (hm:mayD x=true) (hf:followsD V.l x=true) (hc:V.ds.length<V.R.ls.length):
  Calls Tryz.prog 51 #[.pointer (some ⟨V.v,0,none⟩),deedVal x hx] w (VKeepP B d w V x):=by
 have hd:=hda w (Turn.refl _ _)
 obtain ⟨g,hg⟩:∃g:Nat,x.game=(g:Int):=⟨x.game.toNat,by have:=(follows_game hf).1;omega⟩
 obtain ⟨sa,sc,hlook,hown,hsa⟩:=h.rowOf hg hf hd.game
 have hsm:=h.small
 have hpl:=hsm.2.2 (g:Int)
 rw [deedVal_cells]
 go_enter Tryz.func51,Tryz.ntmps51
 go_upto_region 1 with (fail)
 obtain ⟨X,hX⟩:∃X,X=w.heap.size:=⟨_,rfl⟩
 rw [←hX]
 refine wp_forget (fun W=>Blk W X (deedCells x hx).toArray 40∧Below w.heap.size w W) ⟨by subst hX;exact Blk.new w _ _,by subst hX;(try unfold Kept);repeat (first|assumption|exact Below.refl _ _|exact below_undrew (Below.refl _ _)|exact Below.mono (by assumption) (by first|(simp;done)|(simp;omega)|omega)|refine below_setRow ?_ (by first|(simp;done)|(simp;omega)|omega) _|refine Below.setCell ?_ (by first|(simp;done)|(simp;omega)|omega) _|refine Below.alloc ?_ (by first|(simp;done)|(simp;omega)|omega) _|refine below_drewN ?_ _|refine Below.drew ?_|refine below_undrew ?_|refine below_step ?_ (by assumption))⟩ ?_
 rintro W1 ⟨bX,hb1⟩
 have hXw:w.heap.size≤X:=Nat.le_of_eq hX.symm
 clear hX
 have h1:=h.old hb1
 have hown1:=hown.old hb1
 obtain ⟨n,hn⟩:∃n,n=(placesOf V.l (g:Int)).length:=⟨_,rfl⟩
 obtain ⟨k,hk⟩:∃k,k=V.ds.length:=⟨_,rfl⟩
 rw [←hn] at hpl hown1 hlook
 have hk4:k≤4096:=by rw [hk];exact hsm.1
 have L0:∀W,KeepAt (fun y=>y=V.v∨y=X∨y=V.mg) W1.drew W→∀i,W.cell? ⟨V.v,i,none⟩=(vaultCells V)[i]? :=fun W hW i=>(World.cell?_of_block (a:=⟨V.v,i,none⟩) (hW.2 V.v (.inl rfl))).trans (h1.blk.rule i)
 have L1:∀W,KeepAt (fun y=>y=V.v∨y=X∨y=V.mg) W1.drew W→W.cell? ⟨X,1,none⟩=some (.int .i64 (g:Int)):=fun W hW=>by
  rw [World.cell?_of_block (a:=⟨X,1,none⟩) (hW.2 X (.inr (.inl rfl))),←hg];exact bX.cell rfl
 have L2:∀W,KeepAt (fun y=>y=V.v∨y=X∨y=V.mg) W1.drew W→(Instr.lookup 90 (.map (some V.mg)) (.int .i64 (g:Int)) false).run Tryz.prog W= .ok (.slice sa n sc) W:=fun W hW=>hlook W ((hW.2 V.mg (.inr (.inr rfl))).trans (hb1.block _ h.gm.lt))
 unfold vaultCells at L0
 rw [←hk] at L0
 have HN:=Lib.hid hn
 have HK:=Lib.hid hk
 have HG:=Lib.hid hg
 clear hn hk hg hlook hown
 refine wp_region_treeR true (KeepAt (fun y=>y=V.v∨y=X∨y=V.mg)) (KeepAt.refl _) (fun _ _ _ h1 h2=>KeepAt.trans h1 h2) (.step 0 (.step 1 (.step 2 (.step 3 (.step 4 (.step 5 (.step 6 (.step 7 (.step 8 (.step 9 (.step 10 (.step 11 (.step 12 (.step 13 (.step 14 (.step 15 (.step 16 (.step 17 (.step 18 (.step 19 (.step 20 .done))))))))))))))))))))) (by kernel_rfl) (by kernel_rfl) (fun c a d v w h=>by cases d<;>exact h) ?_
 repeat (first|(refine tree_skip rfl (by rfl) ?_;simp only [Act.put,List.setIfInBounds_toArray,List.set])|(refine tree_quiet (v:= ?_) rfl rfl (by rfl) ?_ ?_;rotate_left;(intro W hW;go_simp);(try with_reducible rfl);simp only [Act.put,List.setIfInBounds_toArray,List.set]))
 refine tree_loud rfl rfl (by rfl) (fun K hK=> ?_)
 go_wp2_with fail
 have hw1:=hb1.size
 have hvl:=h1.blk.lt
 have hXl:=bX.lt
 have hgl:=h1.gm.lt
 have hown2:Own (W1.drew.alloc (.cells #[.int .i64 (k:Int)] 3)) B 3 1 sa n sc (placesV V.l g):=hown1.drew.alloc _
 refine hK _ _ (KeepAt.below ((Below.refl _ _).alloc (Nat.le_refl _) _) fun y hy=>by rcases hy with rfl|rfl|rfl<;>assumption) ?_
 clear hK K
 refine tree_loud rfl rfl (by rfl) (fun K hK=> ?_)
 refine wp_append_where (.tmp 16) (.tmp 22) 34 rfl intsT2 rfl hown2 rfl (RowAt.new' W1.drew #[.int .i64 (k:Int)] 3 _ rfl) (by rfl) (by omega) (by exact all_one _ rfl) (by unfold maxLen;omega) (by omega) (by simp;omega) ?_
 intro b c w2 how hg2 hbw
 have hne:∀r,(Value.slice sa n sc).ownBlock=some r→g<gamesN V.l∧r=V.f g:=fun r e=>by
  cases sa with
  |none=>cases e
  |some ad=>
   obtain ⟨q1,q2⟩:=hsa ad rfl
   simp [Value.ownBlock] at e
   exact ⟨q1,e▸q2⟩
 have hfB:g<gamesN V.l→∃cur,Blk W1 (V.f g) cur 3:=fun q=>by
  obtain ⟨_,_,cur,hb⟩:=(h1.rows g q).block_lt rfl
  exact ⟨cur,hb⟩
 have hz2:=hg2.size
 simp at hz2
 have hkeep2:∀y,y<W1.heap.size→(∀q:g<gamesN V.l,y≠V.f g)→w2.heap[y]? =W1.heap[y]? :=fun y hy q=>by
  refine (hg2.block y (by simp;omega) fun e=> ?_).trans (Below.heap_alloc _ _ _ hy)
  obtain ⟨q1,q2⟩:=hne y e.symm
  exact q q1 q2
 have nv:∀q:g<gamesN V.l,V.v≠V.f g:=fun q=>by obtain ⟨cur,hb⟩:=hfB q;exact h1.blk.ne hb (by decide)
 have nX:∀q:g<gamesN V.l,X≠V.f g:=fun q=>by obtain ⟨cur,hb⟩:=hfB q;exact bX.ne hb (by decide)
 have nm:∀q:g<gamesN V.l,V.mg≠V.f g:=fun q=>by obtain ⟨cur,hb⟩:=hfB q;exact fun e=>(hb.ne_gmap h1.gm) e.symm
 refine hK _ _ ⟨hg2.size,fun y hy=> ?_⟩ ?_
 ·rcases hy with rfl|rfl|rfl
  ·exact (hkeep2 _ hvl nv).trans (Below.heap_alloc _ _ _ hvl).symm
  ·exact (hkeep2 _ hXl nX).trans (Below.heap_alloc _ _ _ hXl).symm
  ·exact (hkeep2 _ hgl nm).trans (Below.heap_alloc _ _ _ hgl).symm
 clear hK K
 have hgm2:=h1.gm.keep (hkeep2 _ hgl nm)
 obtain ⟨w3,hrun,hm3,ht3⟩:=hgm2.put keyIv Tryz.underlying90 (by rw [entsG_len];have:=hsm.2.1;unfold maxLen;omega) (kl:=keyV g) (keyOf_int_mk Tryz.underlying3 (by rw [←HG.out];exact hd.game)) (Rs_mk b (n+1) c)
 refine tree_store rfl rfl (by rfl) (fun K hK=> ?_)
 go_wp2_with fail
 refine tree_done ?_
 have hgm3:=hm3.perm (l':=entsG (V.l++ [x]) (upd V.f g b) (upd V.fc g c)) (by rw [HN.out];exact entsG_put HG.out hf V.f V.fc b c)
 have hz3:=ht3.grown.size
 have hkeep3:∀y,y<W1.heap.size→(∀q:g<gamesN V.l,y≠V.f g)→y≠V.mg→w3.heap[y]? =W1.heap[y]? :=fun y hy q e=>(ht3.grown.block y (by omega) (by simpa using e)).trans (hkeep2 y hy q)
 have nvm:V.v≠V.mg:=h1.blk.ne_gmap h1.gm
 have bX3:Blk w3 X (deedCells x hx).toArray 40:=(hkeep3 X hXl nX (bX.ne_gmap h1.gm)).trans bX
 have bV3:Blk w3 V.v (vaultCells V) 93:=(hkeep3 V.v hvl nv nvm).trans h1.blk
 have hrow3:Own w3 B 3 1 (some ⟨b,0,none⟩) (n+1) c (placesV V.l g++ [.int .i64 (k:Int)]):=how.keepAt fun ad e=>by
  cases e
  obtain ⟨_,hl,cur,hb⟩:=how.block_lt rfl
  exact ht3.grown.block _ hl (by simpa using hb.ne_gmap hgm2)
 have hdeeds3:Own w3 B 40 15 V.da k V.dc (dcells V.ds):=by
  rw [HK.out]
  refine h1.deeds.keepAt fun ad e=> ?_
  obtain ⟨_,hl,cur,hb⟩:=h1.deeds.block_lt e
  exact hkeep3 _ hl (fun q=>by obtain ⟨cur2,hb2⟩:=hfB q;exact hb.ne hb2 (by decide)) (hb.ne_gmap h1.gm)
 have hT3:Turn (fun y=>y=V.v∨y=V.mg∨(g<gamesN V.l∧y=V.f g)∨atB V.da y) w w3:=by
  refine (Turn.of_below hb1).trans (G:=fun y=>y=V.v∨y=V.mg∨(g<gamesN V.l∧y=V.f g)∨atB V.da y) ⟨ht3.grown.os.trans hg2.os,ht3.grown.tape.trans hg2.tape,ht3.grown.output.trans hg2.output,by omega,fun y hy hF=>hkeep3 y hy (fun q e=>hF (.inr (.inr (.inl ⟨q,e⟩)))) fun e=>hF (.inr (.inl e))⟩ fun y hy=> .inl hy
 have hsub:∀y,(y=V.v∨y=V.mg∨(g<gamesN V.l∧y=V.f g)∨atB V.da y)→vrest V y:=by
  rintro y (rfl|rfl|⟨hg,rfl⟩|ha)
  ·exact .inl rfl
  ·exact .inr (.inr (.inr (.inr (.inl rfl))))
  ·exact .inr (.inr (.inr (.inr (.inr (.inr (.inl ⟨g,hg,rfl⟩))))))
  ·exact .inr (.inr (.inl ha))
 have hdX:∀ad,V.da=some ad→ad.block<w.heap.size:=fun ad e=>(h.deeds.block_lt e).2.1
 have hbw2:(g<gamesN V.l∧b=V.f g)∨w.heap.size≤b:=by
  rcases hbw with ⟨ad,e,e2⟩|h2
  ·exact .inl ⟨(hsa ad e).1,e2.trans (hsa ad e).2⟩
  ·refine .inr ?_
   simp at h2
   omega
 have hb3lt:b<w3.heap.size:=(hrow3.block_lt rfl).2.1
 clear hkeep3 hkeep2 hne hfB nv nX nm hrun hm3 ht3 hgm2 how hg2 hbw hown2 L0 L1 L2 hown1 h1 bX hb1 hvl hXl hgl hw1
 go_upto_region 2 with fail
 have M0:∀W,KeepAt (fun y=>y=V.v∨y=X) w3.drew W→∀i,W.cell? ⟨V.v,i,none⟩=(vaultCells V)[i]? :=fun W hW i=>(World.cell?_of_block (a:=⟨V.v,i,none⟩) (hW.2 V.v (.inl rfl))).trans (bV3.rule i)
 have M1:∀W,KeepAt (fun y=>y=V.v∨y=X) w3.drew W→∀j (hj:j<(deedCells x hx).length),W.cell? ⟨X,0+j,none⟩=some (deedCells x hx)[j]:=fun W hW j hj=>(World.cell?_of_block (a:=⟨X,0+j,none⟩) (hW.2 X (.inr rfl))).trans (bX3.cells j hj)
 unfold vaultCells at M0
 rw [←HK.out] at M0
 refine wp_region_treeR true (KeepAt (fun y=>y=V.v∨y=X)) (KeepAt.refl _) (fun _ _ _ h1 h2=>KeepAt.trans h1 h2) (.step 0 (.step 1 (.step 2 (.step 3 (.step 4 (.step 5 (.step 6 (.step 7 (.step 8 (.step 9 (.step 10 (.step 11 .done)))))))))))) (by kernel_rfl) (by kernel_rfl) (fun c a d v w h=>by cases d<;>exact h) ?_
 repeat (first|(refine tree_skip rfl (by rfl) ?_;simp only [Act.put,List.setIfInBounds_toArray,List.set])|(refine tree_quiet (v:= ?_) rfl rfl (by rfl) ?_ ?_;rotate_left;(intro W hW;go_simp);(try with_reducible rfl);simp only [Act.put,List.setIfInBounds_toArray,List.set]))
 refine tree_quiet (v:= .agg (deedCells x hx).toArray) rfl rfl (by rfl) (fun W hW=>exec_load_as 40 deedT _ rfl rfl rfl (M1 W hW) rfl) ?_
 simp only [Act.put,List.setIfInBounds_toArray,List.set]
 refine tree_loud rfl rfl (by rfl) (fun K hK=> ?_)
 go_wp2_with fail
 refine (vcopied_any x hx w3.drew (hda _ (hT3.mono hsub).drew)).mono ?_
 rintro e w4 ⟨h',rfl,hdo4,hb4⟩
 have hVl3:=bV3.lt
 have hXl3:=bX3.lt
 go_wp2_with fail
 refine hK _ _ (KeepAt.below hb4 fun y hy=>by rcases hy with rfl|rfl<;>assumption) ?_
 clear hK K
 refine tree_loud rfl rfl (by rfl) (fun K hK=> ?_)
 rw [deedVal_cells]
 have hl15:(deedCells x h').length=15:=rfl
 go_wp2_with fail
 rw [deed_fold]
 have hz4:=hb4.size
 have hV4:V.v<w4.heap.size:=Nat.lt_of_lt_of_le hVl3 hz4
 have hX4:X<w4.heap.size:=Nat.lt_of_lt_of_le hXl3 hz4
 have bV4:Blk w4 V.v (vaultCells V) 93:=bV3.drew.old hb4
 have bX4:Blk w4 X (deedCells x hx).toArray 40:=bX3.drew.old hb4
 have hdeeds4:Own w4 B 40 15 V.da k V.dc (dcells V.ds):=hdeeds3.drew.old hb4
 have hrow4:Own w4 B 3 1 (some ⟨b,0,none⟩) (n+1) c (placesV V.l g++ [.int .i64 (k:Int)]):=hrow3.drew.old hb4
 have hgm4:=hgm3.keep (hb4.block _ hgm3.lt)
 have hw3:=hT3.size
 refine hK _ _ (KeepAt.below ((Below.refl _ w4).alloc (Nat.le_refl _) _) fun y hy=>by rcases hy with rfl|rfl<;>assumption) ?_
 clear hK K
 refine tree_loud rfl rfl (by rfl) (fun K hK=> ?_)
 refine wp_append_where (.tmp 28) (.tmp 31) 23 rfl deedsT rfl (hdeeds4.alloc _) rfl (RowAt.new' w4 (deedCells x h').toArray 40 _ rfl) (by rfl) (by omega) (by exact all_one _ rfl) (by unfold maxLen;omega) (by omega) (by simp;simp at hz4;omega) ?_
 intro b2 c2 w5 hrd hg5 hb2w
 have hne5:∀r,(Value.slice V.da k V.dc).ownBlock=some r→∃ad,V.da=some ad∧r=ad.block:=fun r e=>by
  cases hda:V.da with
  |none=>rw [hda] at e;cases e
  |some ad=>rw [hda] at e;simp [Value.ownBlock] at e;exact ⟨ad,rfl,e.symm⟩
 have hkeep5:∀y cs t,Blk w4 y cs t→(t=40→w.heap.size≤y)→w5.heap[y]? =w4.heap[y]? :=fun y cs t hb q=>by
  refine (hg5.block y (by simp;have:=hb.lt;omega) fun e=> ?_).trans (Below.heap_alloc _ _ _ hb.lt)
  obtain ⟨ad,e1,e2⟩:=hne5 y e.symm
  obtain ⟨_,_,cur,hb2⟩:=hdeeds4.block_lt e1
  subst e2
  by_cases ht:t=40
  ·have:=q ht
   have:=hdX ad e1
   omega
  ·exact hb.ne hb2 ht rfl
 have bV5:Blk w5 V.v (vaultCells V) 93:=(hkeep5 _ _ _ bV4 (fun e=>absurd e (by decide))).trans bV4
 have bX5:Blk w5 X (deedCells x hx).toArray 40:=(hkeep5 _ _ _ bX4 (fun _=>hXw)).trans bX4
 refine hK _ _ ⟨hg5.size,fun y hy=> ?_⟩ ?_
 ·rcases hy with rfl|rfl
  ·exact (hkeep5 _ _ _ bV4 (fun e=>absurd e (by decide))).trans (Below.heap_alloc _ _ _ hV4).symm
  ·exact (hkeep5 _ _ _ bX4 (fun _=>hXw)).trans (Below.heap_alloc _ _ _ hX4).symm
 clear hK K
 repeat (first|(refine tree_skip rfl (by rfl) ?_;simp only [Act.put,List.setIfInBounds_toArray,List.set])|(refine tree_quiet (v:= ?_) rfl rfl (by rfl) ?_ ?_;rotate_left;(intro W hW;go_simp);(try with_reducible rfl);simp only [Act.put,List.setIfInBounds_toArray,List.set]))
 have f5:=bV5.free
 have c5:w5.cell? ⟨V.v,2,none⟩=some (.slice V.da V.ds.length V.dc):=bV5.cell rfl
 refine tree_store rfl rfl (by rfl) (fun K hK=> ?_)
 go_wp2_with fail
 refine tree_done ?_
 go_wp2_with fail
 go_end0
 have hnv:∀y cs t,Blk w5 y cs t→t≠93→y≠V.v:=fun y cs t hb ht=>hb.ne bV5 ht
 have hgm5:GMap w5 Tryz.prog 3 Rs V.mg (entsG (V.l++ [x]) (upd V.f g b) (upd V.fc g c)):=hgm4.keep (by
  refine (hg5.block V.mg (by simp;have:=hgm4.lt;omega) fun e=> ?_).trans (Below.heap_alloc _ _ _ hgm4.lt)
  obtain ⟨ad,e1,e2⟩:=hne5 _ e.symm
  obtain ⟨_,_,cur,hb2⟩:=hdeeds4.block_lt e1
  exact (hb2.ne_gmap hgm4) e2.symm)
 have hrow5:Own w5 B 3 1 (some ⟨b,0,none⟩) (n+1) c (placesV V.l g++ [.int .i64 (k:Int)]):=hrow4.keepAt fun ad e=>by
  obtain ⟨_,hl,cur,hb⟩:=hrow4.block_lt e
  exact hkeep5 _ _ _ hb (fun e=>absurd e (by decide))
 have hdo5:DeedOwn w5 w3.drew.heap.size x h':=hdo4.keepB fun y hy=>by
  obtain ⟨_,_,cur,t,hb,ht⟩:=hdo4.innerLt hy
  exact hkeep5 _ _ _ hb (fun e=>by rcases ht with rfl|rfl<;>exact absurd e (by decide))
 have hT5:Turn (fun y=>y=V.v∨y=V.mg∨(g<gamesN V.l∧y=V.f g)∨atB V.da y) w w5:=by
  have t1:Turn (fun y=>y=V.v∨y=V.mg∨(g<gamesN V.l∧y=V.f g)∨atB V.da y) w3 w4:=Turn.of_below (below_drop hb4)
  have t2:Turn (fun y=>y=V.v∨y=V.mg∨(g<gamesN V.l∧y=V.f g)∨atB V.da y) (w4.alloc (.cells (deedCells x h').toArray 40)) w5:=⟨hg5.os,hg5.tape,hg5.output,hg5.size,fun y hy hF=>hg5.block y hy fun e=>by
   obtain ⟨ad,e1,e2⟩:=hne5 y e.symm
   exact hF (.inr (.inr (.inr ⟨ad,e1,e2⟩)))⟩
  exact (hT3.trans t1 fun _ h=> .inl h).trans (((Turn.refl _ w4).alloc _).trans t2 fun _ h=> .inl h) fun _ h=> .inl h
 have hend:=keep_mem (w':=w5.setCell ⟨V.v,2,none⟩ (.slice (some ⟨b2,0,none⟩) (k+1) c2)) h (h':=h') (g:=g) (b:=b) (c:=c) (b2:=b2) (c2:=c2) HG.out hm hf hd.okD hc
  (hT5.setCell (x:=⟨V.v,2,none⟩) (.inl (.inl rfl)) _) (by
   have:=bV5.set 2 (.slice (some ⟨b2,0,none⟩) (k+1) c2)
   rw [HK.out] at this⊢
   simpa [vaultCells,kept] using this) (hgm5.keep (heap_setCell_other w5 ⟨V.v,2,none⟩ V.mg _ fun e=>nvm e.symm))
  (by rw [←HN.out,←HK.out];exact hrow5.setCell_apart bV5 (by decide) 2 _) hbw2 (by rw [←HK.out];exact hrd.setCell_apart bV5 (by decide) 2 _)
  (hb2w.imp (fun ⟨ad,e1,e2⟩=>⟨ad,e1,e2⟩) (fun q=>by simp at q;simp at hz4;omega)) ((hdo5.cell1 bV5 (by decide) (by decide) _).lower (by simp;omega))
  (fun y hy=>by
   have q:=(hdo5.innerLt hy).1
   simp at q
   exact ⟨by omega,by omega⟩)
 exact ⟨_,rfl,hend,kept_l _ _ _ _ _ _ _ _,rfl,rfl⟩
structure DeedsOwn (w:World) (B:Nat) (a:Option Addr) (c:Nat) (ds:List (DeedP×DeedH)):Prop where
 row:Own w B 40 15 a ds.length c (dcells ds)
 each:∀x∈ds,DeedOwn w B x.1 x.2
structure DeedsAt (w:World) (a:Option Addr) (ds:List (DeedP×DeedH)):Prop where
 row:RowAt w a (dcells ds)
 each:∀x∈ds,DeedAt w x.1 x.2
section
variable {w w':World} {B:Nat} {a:Option Addr} {c:Nat} {ds:List (DeedP×DeedH)}
theorem DeedsOwn.at (h:DeedsOwn w B a c ds):DeedsAt w a ds:=⟨h.row.row,fun x hx=>(h.each x hx).at⟩
theorem DeedsOwn.old (h:DeedsOwn w B a c ds) (hb:Below w.heap.size w w'):DeedsOwn w' B a c ds:=⟨h.row.old hb,fun x hx=>(h.each x hx).old hb⟩
theorem DeedsAt.old (h:DeedsAt w a ds) (hb:Below w.heap.size w w'):DeedsAt w' a ds:=⟨h.row.below hb,fun x hx=>(h.each x hx).old hb⟩
theorem DeedsOwn.nil (w:World) (B:Nat):DeedsOwn w B none 0 []:=⟨Own.nil _ _ _ _,fun x hx=>by cases hx⟩
theorem VaultAt.own {d:Nat} {V:VaultR} (h:VaultAt w B d V):DeedsOwn w B V.da V.dc V.ds:=⟨h.deeds,h.each⟩
theorem dcells_snoc (ds:List (DeedP×DeedH)) (x:DeedP×DeedH):dcells (ds++ [x])=dcells ds++deedCells x.1 x.2:=by simp [dcells]
theorem DeedsAt.elem (h:DeedsAt w a ds) (k:Nat) (hk:k<ds.length):∃b o,a=some ⟨b,o,none⟩∧b<w.heap.size∧∀j (hj:j<(deedCells ds[k].1 ds[k].2).length),w.cell? ⟨b,o+k*15+j,none⟩=some (deedCells ds[k].1 ds[k].2)[j]:=
 RowAt.elem (g:=fun x:DeedP×DeedH=>deedCells x.1 x.2) (sz:=15) (fun _=>rfl) h.row (by omega) k hk
theorem DeedsOwn.more {W W2:World} {a2:Option Addr} {c2 n:Nat} {p:DeedP} {h:DeedH} (ho:DeedsOwn W B a c ds) (hd:DeedOwn W B p h) (hg:(W.alloc (.cells (deedCells p h).toArray 40)).grownBy W2 (Value.slice a n c).ownBlock)
  (hr:Own W2 B 40 15 a2 (n+1) c2 (dcells ds++deedCells p h)) (hn:ds.length=n):DeedsOwn W2 B a2 c2 (ds++ [(p,h)]):=by
 subst hn
 have hne:∀y cs t,Blk W y cs t→t≠40→W2.heap[y]? =W.heap[y]? :=fun y cs t hb ht=>by
  refine (hg.block y (by simp;have:=hb.lt;omega) fun e=> ?_).trans (Below.heap_alloc _ _ _ hb.lt)
  cases ha:a with
  |none=>rw [ha] at e;cases e
  |some ad=>
   rw [ha] at e
   simp [Value.ownBlock] at e
   obtain ⟨_,_,cur,hb2⟩:=ho.row.block_lt ha
   subst e
   exact hb.ne hb2 ht rfl
 refine ⟨by rw [dcells_snoc,List.length_append];exact hr,fun x hx=> ?_⟩
 have key:∀q g,DeedOwn W B q g→DeedOwn W2 B q g:=fun q g hq=>hq.keepB fun y hy=>by
  obtain ⟨_,_,cur,t,hb,ht⟩:=hq.innerLt hy
  exact hne y cur t hb (by rcases ht with rfl|rfl<;>decide)
 rcases List.mem_append.1 hx with hx|hx
 ·exact key _ _ (ho.each x hx)
 ·rw [List.mem_singleton.1 hx]
  exact key _ _ hd
end
theorem vgames_any (w:World) (B d:Nat) (V:VaultR) (h:VaultAt w B d V):
  Calls Tryz.prog 26 #[.pointer (some ⟨V.v,0,none⟩)] w fun e w'=>e= .returned (.int .i64 (gamesN V.l:Int))∧Below w.heap.size w w':=by
 have hb:=h.blk.rule
 unfold vaultCells at hb
 have hsz:∀ty,(Builtin.len_ #[90] ty #[.map (some V.mg)]).run Tryz.prog w= .ok (.int .i64 (gamesN V.l:Int)) w:=fun ty=>h.size ty
 go_enter Tryz.func26,Tryz.ntmps26
 go_wp2_with fail
 go_ret
 exact ⟨rfl,by (try unfold Kept);repeat (first|assumption|exact Below.refl _ _|exact below_undrew (Below.refl _ _)|exact Below.mono (by assumption) (by first|(simp;done)|(simp;omega)|omega)|refine below_setRow ?_ (by first|(simp;done)|(simp;omega)|omega) _|refine Below.setCell ?_ (by first|(simp;done)|(simp;omega)|omega) _|refine Below.alloc ?_ (by first|(simp;done)|(simp;omega)|omega) _|refine below_drewN ?_ _|refine Below.drew ?_|refine below_undrew ?_|refine below_step ?_ (by assumption))⟩
def DdsR (w:World) (l:List DeedP) (n f:Nat) (out i:Value) (wr:World):Prop:=
 ∃(k:Nat) (done:List (DeedP×DeedH)) (a:Option Addr) (c:Nat),k+f=n∧i= .int .i64 (k:Int)∧out= .slice a k c∧done.length=k∧done.map Prod.fst=l.take k∧DeedsOwn wr w.heap.size a c done∧Below w.heap.size w wr
set_option maxHeartbeats 2000000 in
theorem vdeeds_any (w:World) (B d:Nat) (V:VaultR) (h:VaultAt w B d V):
  Calls Tryz.prog 21 #[.pointer (some ⟨V.v,0,none⟩)] w fun e w'=>∃a c ds,e= .returned (.slice a ds.length c)∧ds.map Prod.fst=V.l∧DeedsOwn w' w.heap.size a c ds∧Below w.heap.size w w':=by
 have hb:=h.blk.rule
 unfold vaultCells at hb
 have hn4:=h.small.1
 obtain ⟨n,hn⟩:∃n,n=V.ds.length:=⟨_,rfl⟩
 rw [←hn] at hb hn4
 have HN:=Lib.hid hn
 clear hn
 go_enter Tryz.func21,Tryz.ntmps21
 go_wp2_with fail
 clear hb
 go_loopg [3,13] n (fun f out i wr=>DdsR w V.l n f out i wr)
 case atStart=>exact ⟨0,[],none,0,by omega,rfl,rfl,rfl,rfl,DeedsOwn.nil _ _,by (try unfold Kept);repeat (first|assumption|exact Below.refl _ _|exact below_undrew (Below.refl _ _)|exact Below.mono (by assumption) (by first|(simp;done)|(simp;omega)|omega)|refine below_setRow ?_ (by first|(simp;done)|(simp;omega)|omega) _|refine Below.setCell ?_ (by first|(simp;done)|(simp;omega)|omega) _|refine Below.alloc ?_ (by first|(simp;done)|(simp;omega)|omega) _|refine below_drewN ?_ _|refine Below.drew ?_|refine below_undrew ?_|refine below_step ?_ (by assumption))⟩
 case round=>
  obtain ⟨k,done,a,c,hf,rfl,rfl,hk,hl,ho,hbw⟩:=hrel
  have HF:=Lib.hid hf
  clear hf
  by_cases hkn:k<n
  ·have hkl:k<V.ds.length:=by rw [←HN.out];exact hkn
   obtain ⟨b,o,hab,hbl,hc⟩:=((h.own.at).old hbw).elem k hkl
   have hdo:DeedAt wr (V.ds[k]).1 (V.ds[k]).2:=((h.each _ (List.getElem_mem hkl)).at).old hbw
   obtain ⟨p,hp⟩:∃p,p=(V.ds[k]).1:=⟨_,rfl⟩
   obtain ⟨g,hg⟩:∃g,g=(V.ds[k]).2:=⟨_,rfl⟩
   rw [←hp,←hg] at hc hdo
   have HP:=Lib.hid hp
   clear hp hg
   rw [hab]
   go_upto_region 7 with (first|refine wpList_load_as rfl 40 deedT _ rfl rfl rfl hc rfl ?_|refine wpList_store_at rfl 40 deedT (.tmp 5) (.tmp 16) rfl rfl rfl (Blk.new wr zeroDC 40) rfl (by decide) rfl ?_)
   obtain ⟨X,hX⟩:∃X,X=wr.heap.size:=⟨_,rfl⟩
   rw [←hX]
   refine wp_forget (fun W=>Blk W X (deedCells p g).toArray 40∧Below wr.heap.size wr W) ⟨by rw [hX];exact (splice0 p g)▸(Blk.new wr zeroDC 40).setRow _,by rw [hX];exact below_setRow ((Below.refl _ wr).alloc (Nat.le_refl _) _) (Nat.le_refl _) _⟩ ?_
   rintro W1 ⟨bX,hb1⟩
   have hXw:wr.heap.size≤X:=Nat.le_of_eq hX.symm
   clear hX hc
   have hz1:=hb1.size
   have hzw:=hbw.size
   have ho1:=ho.old hb1
   have hrow1:=ho1.row
   rw [hk] at hrow1
   have hd1:=hdo.old hb1
   have cc:=vcopied_any p g W1 hd1
   rw [deedVal_cells] at cc
   clear hrow1
   go_wp2_with (first|refine wpList_load_blk rfl 40 deedT (.tmp 5) rfl rfl bX rfl ?_)
   refine cc.mono ?_
   clear cc
   rintro e W2 ⟨h',rfl,hdo2,hb2⟩
   rw [deedVal_cells]
   have hl15:(deedCells p h').length=15:=rfl
   have ho2:=ho1.old hb2
   have hrow2:=ho2.row
   rw [hk] at hrow2
   have hz2:=hb2.size
   have hdo2':=hdo2.lower (B':=w.heap.size) (by omega)
   have hb02:Below w.heap.size w W2:=below_step (below_step hbw hb1) hb2
   clear hb1 hb2 bX ho1 hd1 hdo2
   go_wp2_with (at_builtin;rw [deed_fold];refine wpList_append_row rfl _ _ 23 rfl deedsT rfl (hrow2.alloc _) rfl (RowAt.new' W2 (deedCells p h').toArray 40 _ rfl) (by rfl) (by exact all_one _ rfl) (by unfold maxLen;omega) (by omega) (by simp;omega) ?_)
   intro a3 c3 W3 hr3 hg3
   have ho3:=ho2.more hdo2' hg3 hr3 hk
   have hb03:Below w.heap.size w W3:=(hrow2.alloc _).grown (hb02.alloc hb02.size _) (by simp) hg3 (by simp;have:=hb02.size;omega)
   go_wp2_with fail
   rw [←hab]
   go_roundg (gk-1)
   case rel=>
    have hf:=HF.out
    refine ⟨k+1,done++ [(p,h')],a3,c3,by omega,by go_num,rfl,by simp [hk],?_,ho3,hb03⟩
    rw [List.map_append,hl,List.take_succ_eq_append_getElem (by rw [VaultR.len];exact hkl)]
    simp [VaultR.l,HP.out]
   case measure=>have hf:=HF.out;omega
  ·have hkn':k=n:=by have:=HF.out;omega
   subst hkn'
   go_wp2_with fail
   go_ret
   refine ⟨a,c,done,by subst hk;rfl,?_,ho,hbw⟩
   rw [hl,List.take_of_length_le]
   rw [VaultR.len,←HN.out]
   exact Nat.le_refl _
end
end Go.Proofs.YtioigihakjlopaaGreat

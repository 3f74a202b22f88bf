/- Texts put together and cut to what is used: VaultD. -/
import Derived.Test.YtioigihakjlopaaGreatVK38
namespace Go.Proofs.YtioigihakjlopaaGreat
set_option linter.unusedVariables false
set_option linter.unusedSimpArgs false
section
open Go.RowKit Go.Maps
set_option maxRecDepth 20000
structure DeedsOwn (w:World) (B:Nat) (a:Option Addr) (c:Nat) (ds:List (DeedP×DeedH)):Prop where
 row:Own w B 40 15 a ds.length c (dcells ds)
 each:∀x∈ds,DeedOwn w B x.1 x.2
structure DeedsAt (w:World) (a:Option Addr) (ds:List (DeedP×DeedH)):Prop where
 row:RowAt w a (dcells ds)
 each:∀x∈ds,DeedAt w x.1 x.2
section
variable {w w':World} {B:Nat} {a:Option Addr} {c:Nat} {ds:List (DeedP×DeedH)}
theorem DeedsOwn.at (h:DeedsOwn w B a c ds):DeedsAt w a ds:=⟨h.row.row,fun x hx=>(h.each x hx).at⟩
theorem DeedsOwn.old (h:DeedsOwn w B a c ds) (hb:Below w.heap.size w w'):DeedsOwn w' B a c ds:=⟨h.row.old hb,fun x hx=>(h.each x hx).old hb⟩
theorem DeedsAt.old (h:DeedsAt w a ds) (hb:Below w.heap.size w w'):DeedsAt w' a ds:=⟨h.row.below hb,fun x hx=>(h.each x hx).old hb⟩
theorem DeedsOwn.nil (w:World) (B:Nat):DeedsOwn w B none 0 []:=⟨Own.nil _ _ _ _,fun x hx=>by cases hx⟩
theorem VaultAt.own {d:Nat} {V:VaultR} (h:VaultAt w B d V):DeedsOwn w B V.da V.dc V.ds:=⟨h.deeds,h.each⟩
theorem dcells_len (ds:List (DeedP×DeedH)):(dcells ds).length=ds.length*15:=by
 induction ds with
 |nil=>rfl
 |cons x l ih=>
  unfold dcells at ih⊢
  rw [List.flatMap_cons,List.length_append,ih,deedCells_len,List.length_cons]
  omega
theorem dcells_snoc (ds:List (DeedP×DeedH)) (x:DeedP×DeedH):dcells (ds++ [x])=dcells ds++deedCells x.1 x.2:=by simp [dcells]
theorem DeedsAt.elem (h:DeedsAt w a ds) (k:Nat) (hk:k<ds.length):∃b o,a=some ⟨b,o,none⟩∧b<w.heap.size∧∀j (hj:j<(deedCells ds[k].1 ds[k].2).length),w.cell? ⟨b,o+k*15+j,none⟩=some (deedCells ds[k].1 ds[k].2)[j]:=
 RowAt.elem (g:=fun x:DeedP×DeedH=>deedCells x.1 x.2) (sz:=15) (fun _=>rfl) h.row (by omega) k hk
theorem DeedsOwn.more {W W2:World} {a2:Option Addr} {c2 n:Nat} {p:DeedP} {h:DeedH} (ho:DeedsOwn W B a c ds) (hd:DeedOwn W B p h) (hg:(W.alloc (.cells (deedCells p h).toArray 40)).grownBy W2 (Value.slice a n c).ownBlock)
  (hr:Own W2 B 40 15 a2 (n+1) c2 (dcells ds++deedCells p h)) (hn:ds.length=n):DeedsOwn W2 B a2 c2 (ds++ [(p,h)]):=by
 subst hn
 have hne:∀y cs t,Blk W y cs t→t≠40→W2.heap[y]? =W.heap[y]? :=fun y cs t hb ht=>by
  refine (hg.block y (by simp;have:=hb.lt;omega) fun e=> ?_).trans (Below.heap_alloc _ _ _ hb.lt)
  cases ha:a with
  |none=>rw [ha] at e;cases e
  |some ad=>
   rw [ha] at e
   simp [Value.ownBlock] at e
   obtain ⟨_,_,cur,hb2⟩:=ho.row.block_lt ha
   subst e
   exact hb.ne hb2 ht rfl
 refine ⟨by rw [dcells_snoc,List.length_append];exact hr,fun x hx=> ?_⟩
 have key:∀q g,DeedOwn W B q g→DeedOwn W2 B q g:=fun q g hq=>hq.keepB fun y hy=>by
  obtain ⟨_,_,cur,t,hb,ht⟩:=hq.innerLt hy
  exact hne y cur t hb (by rcases ht with rfl|rfl<;>decide)
 rcases List.mem_append.1 hx with hx|hx
 ·exact key _ _ (ho.each x hx)
 ·rw [List.mem_singleton.1 hx]
  exact key _ _ hd
end
theorem vgames_any (w:World) (B d:Nat) (V:VaultR) (h:VaultAt w B d V):
  Calls Tryz.prog 26 #[.pointer (some ⟨V.v,0,none⟩)] w fun e w'=>e= .returned (.int .i64 (gamesN V.l:Int))∧Below w.heap.size w w':=by
 have hb:=h.blk.rule
 unfold vaultCells at hb
 have hsz:∀ty,(Builtin.len_ #[90] ty #[.map (some V.mg)]).run Tryz.prog w= .ok (.int .i64 (gamesN V.l:Int)) w:=fun ty=>h.size ty
 go_enter Tryz.func26,Tryz.ntmps26
 go_wp2_with fail
 go_ret
 exact ⟨rfl,by (try unfold Kept);repeat (first|assumption|exact Below.refl _ _|exact below_undrew (Below.refl _ _)|exact Below.mono (by assumption) (by first|(simp;done)|(simp;omega)|omega)|refine below_setRow ?_ (by first|(simp;done)|(simp;omega)|omega) _|refine Below.setCell ?_ (by first|(simp;done)|(simp;omega)|omega) _|refine Below.alloc ?_ (by first|(simp;done)|(simp;omega)|omega) _|refine below_drewN ?_ _|refine Below.drew ?_|refine below_undrew ?_|refine below_step ?_ (by assumption))⟩
def DdsR (w:World) (l:List DeedP) (n f:Nat) (out i:Value) (wr:World):Prop:=
 ∃(k:Nat) (done:List (DeedP×DeedH)) (a:Option Addr) (c:Nat),k+f=n∧i= .int .i64 (k:Int)∧out= .slice a k c∧done.length=k∧done.map Prod.fst=l.take k∧DeedsOwn wr w.heap.size a c done∧Below w.heap.size w wr
set_option maxHeartbeats 2000000 in
theorem vdeeds_any (w:World) (B d:Nat) (V:VaultR) (h:VaultAt w B d V):
  Calls Tryz.prog 21 #[.pointer (some ⟨V.v,0,none⟩)] w fun e w'=>∃a c ds,e= .returned (.slice a ds.length c)∧ds.map Prod.fst=V.l∧DeedsOwn w' w.heap.size a c ds∧Below w.heap.size w w':=by
 have hb:=h.blk.rule
 unfold vaultCells at hb
 have hn4:=h.small.1
 obtain ⟨n,hn⟩:∃n,n=V.ds.length:=⟨_,rfl⟩
 rw [←hn] at hb hn4
 have HN:=Lib.hid hn
 clear hn
 go_enter Tryz.func21,Tryz.ntmps21
 go_wp2_with fail
 clear hb
 go_loopg [3,13] n (fun f out i wr=>DdsR w V.l n f out i wr)
 case atStart=>exact ⟨0,[],none,0,by omega,rfl,rfl,rfl,rfl,DeedsOwn.nil _ _,by (try unfold Kept);repeat (first|assumption|exact Below.refl _ _|exact below_undrew (Below.refl _ _)|exact Below.mono (by assumption) (by first|(simp;done)|(simp;omega)|omega)|refine below_setRow ?_ (by first|(simp;done)|(simp;omega)|omega) _|refine Below.setCell ?_ (by first|(simp;done)|(simp;omega)|omega) _|refine Below.alloc ?_ (by first|(simp;done)|(simp;omega)|omega) _|refine below_drewN ?_ _|refine Below.drew ?_|refine below_undrew ?_|refine below_step ?_ (by assumption))⟩
 case round=>
  obtain ⟨k,done,a,c,hf,rfl,rfl,hk,hl,ho,hbw⟩:=hrel
  have HF:=Lib.hid hf
  clear hf
  by_cases hkn:k<n
  ·have hkl:k<V.ds.length:=by rw [←HN.out];exact hkn
   obtain ⟨b,o,hab,hbl,hc⟩:=((h.own.at).old hbw).elem k hkl
   have hdo:DeedAt wr (V.ds[k]).1 (V.ds[k]).2:=((h.each _ (List.getElem_mem hkl)).at).old hbw
   obtain ⟨p,hp⟩:∃p,p=(V.ds[k]).1:=⟨_,rfl⟩
   obtain ⟨g,hg⟩:∃g,g=(V.ds[k]).2:=⟨_,rfl⟩
   rw [←hp,←hg] at hc hdo
   have HP:=Lib.hid hp
   clear hp hg
   rw [hab]
   go_upto_region 7 with (first|refine wpList_load_as rfl 40 deedT _ rfl rfl rfl hc rfl ?_|refine wpList_store_at rfl 40 deedT (.tmp 5) (.tmp 16) rfl rfl rfl (Blk.new wr zeroDC 40) rfl (by decide) rfl ?_)
   obtain ⟨X,hX⟩:∃X,X=wr.heap.size:=⟨_,rfl⟩
   rw [←hX]
   refine wp_forget (fun W=>Blk W X (deedCells p g).toArray 40∧Below wr.heap.size wr W) ⟨by rw [hX];exact (splice0 p g)▸(Blk.new wr zeroDC 40).setRow _,by rw [hX];exact below_setRow ((Below.refl _ wr).alloc (Nat.le_refl _) _) (Nat.le_refl _) _⟩ ?_
   rintro W1 ⟨bX,hb1⟩
   have hXw:wr.heap.size≤X:=Nat.le_of_eq hX.symm
   clear hX hc
   have hz1:=hb1.size
   have hzw:=hbw.size
   have ho1:=ho.old hb1
   have hrow1:=ho1.row
   rw [hk] at hrow1
   have hd1:=hdo.old hb1
   have cc:=vcopied_any p g W1 hd1
   rw [deedVal_cells] at cc
   clear hrow1
   go_wp2_with (first|refine wpList_load_blk rfl 40 deedT (.tmp 5) rfl rfl bX rfl ?_)
   refine cc.mono ?_
   clear cc
   rintro e W2 ⟨h',rfl,hdo2,hb2⟩
   rw [deedVal_cells]
   have hl15:(deedCells p h').length=15:=rfl
   have ho2:=ho1.old hb2
   have hrow2:=ho2.row
   rw [hk] at hrow2
   have hz2:=hb2.size
   have hdo2':=hdo2.lower (B':=w.heap.size) (by omega)
   have hb02:Below w.heap.size w W2:=below_step (below_step hbw hb1) hb2
   clear hb1 hb2 bX ho1 hd1 hdo2
   go_wp2_with (at_builtin;rw [deed_fold];refine wpList_append_row rfl _ _ 23 rfl deedsT rfl (hrow2.alloc _) rfl (RowAt.new' W2 (deedCells p h').toArray 40 _ rfl) (by rfl) (by exact all_one _ rfl) (by unfold maxLen;omega) (by omega) (by simp;omega) ?_)
   intro a3 c3 W3 hr3 hg3
   have ho3:=ho2.more hdo2' hg3 hr3 hk
   have hb03:Below w.heap.size w W3:=(hrow2.alloc _).grown (hb02.alloc hb02.size _) (by simp) hg3 (by simp;have:=hb02.size;omega)
   go_wp2_with fail
   rw [←hab]
   go_roundg (gk-1)
   case rel=>
    have hf:=HF.out
    refine ⟨k+1,done++ [(p,h')],a3,c3,by omega,by go_num,rfl,by simp [hk],?_,ho3,hb03⟩
    rw [List.map_append,hl,List.take_succ_eq_append_getElem (by rw [VaultR.len];exact hkl)]
    simp [VaultR.l,HP.out]
   case measure=>have hf:=HF.out;omega
  ·have hkn':k=n:=by have:=HF.out;omega
   subst hkn'
   go_wp2_with fail
   go_ret
   refine ⟨a,c,done,by subst hk;rfl,?_,ho,hbw⟩
   rw [hl,List.take_of_length_le]
   rw [VaultR.len,←HN.out]
   exact Nat.le_refl _
theorem places_at (V:VaultR) (g:Nat) (k:Nat) (hk:k<(placesOf V.l (g:Int)).length):(placesOf V.l (g:Int))[k]<V.ds.length:=by
 rw [←VaultR.len]
 exact placesOf_lt V.l _ _ (List.getElem_mem hk)
def GmR (w:World) (l:List DeedP) (pl:List Nat) (n f:Nat) (out i:Value) (wr:World):Prop:=
 ∃(k:Nat) (done:List (DeedP×DeedH)) (a:Option Addr) (c:Nat),k+f=n∧i= .int .i64 (k:Int)∧out= .slice a k c∧done.length=k∧done.map Prod.fst=(pl.take k).filterMap (fun j=>l[j]?)∧DeedsOwn wr w.heap.size a c done∧Below w.heap.size w wr
def VGameP (w:World) (V:VaultR) (n:Int) (e:Ending) (w':World):Prop:=
 if 0≤n∧n<(gamesN V.l:Int) then ∃a c ds,e= .returned (.tuple #[.slice a ds.length c,.int .i64 0])∧ds.map Prod.fst=ofG V.l n∧DeedsOwn w' w.heap.size a c ds∧Below w.heap.size w w'
 else e= .returned (.tuple #[.slice none 0 0,.int .i64 4])∧Below w.heap.size w w'
set_option maxHeartbeats 2000000 in
theorem vgame_any (w:World) (B d:Nat) (V:VaultR) (h:VaultAt w B d V) (n:Int) (hw:(Lit.int .i64 n).wf=true):
  Calls Tryz.prog 27 #[.pointer (some ⟨V.v,0,none⟩),.int .i64 n] w (VGameP w V n):=by
 obtain ⟨S,hS⟩:∃S,S=VGameP w V n:=⟨_,rfl⟩
 rw [←hS]
 have HS:=Lib.hid hS
 clear hS
 have hb:=h.blk.rule
 unfold vaultCells at hb
 by_cases hin:0≤n∧n<(gamesN V.l:Int)
 ·have hfin:∀a c ds w',ds.map Prod.fst=ofG V.l n→DeedsOwn w' w.heap.size a c ds→Below w.heap.size w w'→S (.returned (.tuple #[.slice a ds.length c,.int .i64 0])) w':=fun a c ds w' q1 q2 q3=>by
   rw [HS.out]
   unfold VGameP
   rw [if_pos hin]
   exact ⟨a,c,ds,rfl,q1,q2,q3⟩
  have HFIN:=Lib.hid hfin
  clear hfin
  obtain ⟨g,hg⟩:∃g:Nat,n=(g:Int):=⟨n.toNat,by omega⟩
  subst hg
  have hgl:g<gamesN V.l:=by omega
  have hlook:=h.look hgl true
  have hrow:=(h.rows g hgl).row
  have hpl4:=h.small.2.2 (g:Int)
  obtain ⟨m,hm⟩:∃m,m=(placesOf V.l (g:Int)).length:=⟨_,rfl⟩
  rw [←hm] at hlook hpl4
  have HM:=Lib.hid hm
  obtain ⟨dn,hdn⟩:∃dn,dn=V.ds.length:=⟨_,rfl⟩
  rw [←hdn] at hb
  have HDN:=Lib.hid hdn
  clear hm hdn hin hw
  go_enter Tryz.func27,Tryz.ntmps27
  go_wp2_with fail
  clear hlook
  go_loopg [8,26] m (fun f out i wr=>GmR w V.l (placesOf V.l (g:Int)) m f out i wr)
  case atStart=>exact ⟨0,[],none,0,by omega,rfl,rfl,rfl,rfl,DeedsOwn.nil _ _,by (try unfold Kept);repeat (first|assumption|exact Below.refl _ _|exact below_undrew (Below.refl _ _)|exact Below.mono (by assumption) (by first|(simp;done)|(simp;omega)|omega)|refine below_setRow ?_ (by first|(simp;done)|(simp;omega)|omega) _|refine Below.setCell ?_ (by first|(simp;done)|(simp;omega)|omega) _|refine Below.alloc ?_ (by first|(simp;done)|(simp;omega)|omega) _|refine below_drewN ?_ _|refine Below.drew ?_|refine below_undrew ?_|refine below_step ?_ (by assumption))⟩
  case round=>
   obtain ⟨k,done,a,c,hf,rfl,rfl,hk,hl,ho,hbw⟩:=hrel
   have HF:=Lib.hid hf
   clear hf
   by_cases hkm:k<m
   ·have hkp:k<(placesOf V.l (g:Int)).length:=by rw [←HM.out];exact hkm
    obtain ⟨j,hj⟩:∃j,j=(placesOf V.l (g:Int))[k]:=⟨_,rfl⟩
    have hjl:j<V.ds.length:=by rw [hj];exact places_at V g k hkp
    have hjd:j<dn:=by rw [HDN.out];exact hjl
    have hplace:wr.cell? ⟨V.f g,0+k,none⟩=some (.int .i64 (j:Int)):=by
     have hk2:k<(placesV V.l g).length:=by unfold placesV;rw [List.length_map];exact hkp
     obtain ⟨b',o',e,hc⟩:=(hrow.below hbw) k hk2
     cases e
     rw [hc]
     simp [placesV,hj]
    rw [Nat.zero_add] at hplace
    obtain ⟨b,o,hab,hbl,hc⟩:=((h.own.at).old hbw).elem j hjl
    have hdo:DeedAt wr (V.ds[j]).1 (V.ds[j]).2:=((h.each _ (List.getElem_mem hjl)).at).old hbw
    have hget:V.l[j]? =some (V.ds[j]).1:=by unfold VaultR.l;rw [List.getElem?_map,List.getElem?_eq_getElem hjl];rfl
    have hstep:((placesOf V.l (g:Int)).take (k+1)).filterMap (fun j=>V.l[j]?)=((placesOf V.l (g:Int)).take k).filterMap (fun j=>V.l[j]?)++ [(V.ds[j]).1]:=by
     rw [List.take_succ_eq_append_getElem hkp,List.filterMap_append,←hj]
     simp [hget]
    obtain ⟨p,hp⟩:∃p,p=(V.ds[j]).1:=⟨_,rfl⟩
    obtain ⟨q,hq⟩:∃q,q=(V.ds[j]).2:=⟨_,rfl⟩
    rw [←hp,←hq] at hc hdo
    rw [←hp] at hstep
    have HST:=Lib.hid hstep
    clear hp hq hget hj hstep
    have cc:=vcopied_any p q wr hdo
    rw [deedVal_cells] at cc
    have hb':∀i,wr.cell? ⟨V.v,i,none⟩= #[Value.slice V.ma V.m.length V.mc,.pointer (some ⟨V.R.l,0,none⟩),.slice V.da dn V.dc,.map (some V.mg),.map (some V.mb),.bool V.down][i]? :=fun i=>(hbw.cell (p:=⟨V.v,i,none⟩) h.blk.lt).trans (hb i)
    rw [hab] at hb'
    go_wp2_with (refine wpList_load_as rfl 40 deedT _ rfl rfl rfl hc rfl ?_)
    refine cc.mono ?_
    clear cc
    rintro e W2 ⟨h',rfl,hdo2,hb2⟩
    rw [deedVal_cells]
    have hl15:(deedCells p h').length=15:=rfl
    have ho2:=ho.old hb2
    have hrow2:=ho2.row
    rw [hk] at hrow2
    have hz2:=hb2.size
    have hzw:=hbw.size
    have hdo2':=hdo2.lower (B':=w.heap.size) (by omega)
    have hb02:Below w.heap.size w W2:=below_step hbw hb2
    clear hb2 hdo2 hb' hc hplace
    go_wp2_with (at_builtin;rw [deed_fold];refine wpList_append_row rfl _ _ 23 rfl deedsT rfl (hrow2.alloc _) rfl (RowAt.new' W2 (deedCells p h').toArray 40 _ rfl) (by rfl) (by exact all_one _ rfl) (by unfold maxLen;omega) (by omega) (by simp;omega) ?_)
    intro a3 c3 W3 hr3 hg3
    have ho3:=ho2.more hdo2' hg3 hr3 hk
    have hb03:Below w.heap.size w W3:=(hrow2.alloc _).grown (hb02.alloc hb02.size _) (by simp) hg3 (by simp;have:=hb02.size;omega)
    go_wp2_with fail
    go_roundg (gk-1)
    case rel=>
     have hf:=HF.out
     refine ⟨k+1,done++ [(p,h')],a3,c3,by omega,by go_num,rfl,by simp [hk],?_,ho3,hb03⟩
     rw [List.map_append,hl,HST.out]
     rfl
    case measure=>have hf:=HF.out;omega
   ·have hkm':k=m:=by have:=HF.out;omega
    subst hkm'
    have q:=HFIN.out a c done wr (by
     rw [hl,List.take_of_length_le (by rw [←HM.out];exact Nat.le_refl _)]
     exact placesOf_get V.l _) ho hbw
    rw [hk] at q
    have Q:=Lib.hid q
    clear q
    go_wp2_with fail
    exact Q.out
 ·have hfin:∀w',Below w.heap.size w w'→S (.returned (.tuple #[.slice none 0 0,.int .i64 4])) w':=fun w' q3=>by
   rw [HS.out]
   unfold VGameP
   rw [if_neg hin]
   exact ⟨rfl,q3⟩
  have HFIN:=Lib.hid hfin
  have hlook:=h.look_no hw hin true
  have HIN:=Lib.hid hin
  clear hfin hin hw
  go_enter Tryz.func27,Tryz.ntmps27
  go_wp2_with fail
  exact HFIN.out _ (Below.refl _ _)
end
end Go.Proofs.YtioigihakjlopaaGreat

/- Texts put together and cut to what is used: VaultGames. -/
import Derived.Test.YtioigihakjlopaaGreatVK51
namespace Go.Proofs.YtioigihakjlopaaGreat
set_option linter.unusedVariables false
set_option linter.unusedSimpArgs false
section
open Go.RowKit Go.Maps
set_option maxRecDepth 20000
def Gm1 (w:World) (v n f:Nat) (i:Value) (wr:World):Prop:=
 ∃(k:Nat) (r:DiskR) (V:VaultR),k+f=n∧i= .int .i64 (k:Int)∧VL wr w.heap.size r V∧V.v=v∧V.ds.length≤k∧Below w.heap.size w wr
theorem put_len {p:DiskP} {V V':VaultR} {x:DeedP} (h:V'.l=(if putE p V x=0 then V.l++ [x] else V.l)):V'.ds.length≤V.ds.length+1:=by
 rw [←VaultR.len,←VaultR.len,h]
 split
 ·simp
 ·omega
def Gm2 (w:World) (B v d:Nat) (V:VaultR) (ad:Option Addr) (all:List (DeedP×DeedH)) (g f:Nat) (cnt i:Value) (wr:World):Prop:=
 ∃k:Nat,k+f=g∧i= .int .i64 (k:Int)∧cnt= .int .i64 (sumG V.l k:Int)∧VaultAt wr B d V∧V.v=v∧DeedsAt wr ad all∧Below w.heap.size w wr
def Gm3 (w wo:World) (all:List (DeedP×DeedH)) (g n f:Nat) (mine j:Value) (wr:World):Prop:=
 ∃(k:Nat) (a:Option Addr) (c:Nat) (ms:List (DeedP×DeedH)),k+f=n∧j= .int .i64 (k:Int)∧mine= .slice a ms.length c∧ms=(all.take k).filter (fun x=>decide (x.1.game=(g:Int)))∧Own wr wo.heap.size 40 15 a ms.length c (dcells ms)∧Below wo.heap.size wo wr
theorem filter_plain (all:List (DeedP×DeedH)) (g:Int):plainD (all.filter fun x=>decide (x.1.game=g))=ofG (plainD all) g:=by
 unfold plainD ofG
 rw [List.filter_map]
 rfl
def nmA1:Name:=⟨#[97]⟩
set_option maxHeartbeats 8000000 in
theorem vaultGames_any (ma:Option Addr) (mn mc:Nat) (m:List UInt8) (a:Option Addr) (n c:Nat) (ds:List (DeedP×DeedH)) (w:World) (hma:BytesAt w ma m) (hml:m.length=mn) (hd:DeedRow w a n c ds):
  Calls Tryz.prog 5 #[.slice ma mn mc,.slice a n c] w fun e w'=>e= .returned (.bool true)∧Below w.heap.size w w':=by
 obtain ⟨hda,hdl,hdc,hdm⟩:=hd
 have HDL:=Lib.hid hdl
 clear hdl
 by_cases hn:n≤40
 rotate_left 1
 ·have t0:decide ((n:Int)>40)=true:=by simp;omega
  have t1:decide ((40:Int)<(n:Int))=true:=by simp;omega
  go_enter Tryz.func5,Tryz.ntmps5
  go_wp2_with fail
  refine (vwakes_any _).mono ?_
  rintro e wz ⟨rfl,hbz⟩
  have hbwz:Below w.heap.size w wz:=(Below.refl w.heap.size w).trans (hbz.mono (Below.refl w.heap.size w).size)
  go_wp2_with fail
  go_ret
  exact ⟨rfl,hbwz⟩
 have t0:decide ((n:Int)>40)=false:=by simp;omega
 have t1:decide ((40:Int)<(n:Int))=false:=by simp;omega
 by_cases hm:mn≤200
 rotate_left 1
 ·have t2:decide ((mn:Int)>200)=true:=by simp;omega
  have t3:decide ((200:Int)<(mn:Int))=true:=by simp;omega
  go_enter Tryz.func5,Tryz.ntmps5
  go_wp2_with fail
  refine (vwakes_any _).mono ?_
  rintro e wz ⟨rfl,hbz⟩
  have hbwz:Below w.heap.size w wz:=(Below.refl w.heap.size w).trans (hbz.mono (Below.refl w.heap.size w).size)
  go_wp2_with fail
  go_ret
  exact ⟨rfl,hbwz⟩
 have t2:decide ((mn:Int)>200)=false:=by simp;omega
 have t3:decide ((200:Int)<(mn:Int))=false:=by simp;omega
 go_enter Tryz.func5,Tryz.ntmps5
 go_wp2_with fail
 refine (new_any' w).mono ?_
 rintro e w1 ⟨r1,rfl,hp1,hd1,hb1⟩
 have HP1:=Lib.hid hp1.out
 have hmb:=hma.below hb1
 clear hp1 t0 t1 t2 t3
 go_wp2_with fail
 obtain ⟨k1,k2,k3,k4,k5⟩:=new_vopen (nm:=nmA1) (by decide) m
 have co:=vopen_any w1 w.heap.size r1 nmA1 hd1 hb1.size (by decide) ma mn mc m hmb hml (by omega) (fun hne ad e hf=>by
  obtain ⟨b',o',e2,hc2⟩:=hma 0 (by rw [List.length_map];exact List.length_pos_iff.2 hne)
  rw [e] at e2
  cases e2
  have q1:=World.block_lt_of_cell? w _ hc2
  have q2:=(hd1.lt hf).1
  simp at q1 q2
  omega)
 refine co.mono ?_
 clear co
 rintro e w2 ⟨r2,hp2,hst2,hres⟩
 rw [HP1.out] at hres hp2
 rcases hres with ⟨h1,_⟩|⟨_,V,rfl,hV,_,hl,_,_,_,_⟩
 ·exact absurd k1 h1
 rw [k4]
 rw [k3] at hl
 have hV0:V.ds.length≤0:=by rw [←VaultR.len,hl];exact Nat.le_refl _
 have hbw2:Below w.heap.size w w2:=hb1.trans (hst2.below hd1 hb1.size)
 have hst:Gm1 w V.v n n (.int .i64 0) w2:=⟨0,r2,V,by omega,rfl,hV,rfl,hV0,hbw2⟩
 generalize V.v=v at*
 clear k1 k2 k3 k4 k5 hV hl hV0 hbw2 hp2 hst2 hd1 hmb HP1 hb1
 go_wp2_with fail
 go_loopg [39] n (fun f i wr=>Gm1 w v n f i wr)
 case atStart=>exact hst
 case round=>
  clear hst
  obtain ⟨k,r,V,hf,rfl,hV,rfl,hlen,hbw⟩:=hrel
  have HF:=Lib.hid hf
  clear hf
  by_cases hkn:k<n
  ·have t4:decide ((k:Int)<(n:Int))=true:=by simp;omega
   have hkl:k<ds.length:=by rw [HDL.out];exact hkn
   obtain ⟨b,o,hab,hbl,hc⟩:=(hda.old hbw).elem k hkl
   have hdd:=(hda.each _ (List.getElem_mem hkl))
   generalize ds[k]=y at hc hdd
   obtain ⟨p,h⟩:=y
   dsimp only at hc hdd
   rw [hab]
   go_upto_region 9 with (first|refine wpList_load_as rfl 40 deedT _ rfl rfl rfl hc rfl ?_|refine wpList_store_blk rfl 40 deedT (.tmp 9) _ rfl rfl rfl (Blk.new wr zeroDC 40) rfl rfl rfl ?_)
   obtain ⟨X,hX⟩:∃X,X=wr.heap.size:=⟨_,rfl⟩
   rw [←hX]
   refine wp_forget (fun W=>Blk W X (deedCells p h).toArray 40∧Below wr.heap.size wr W) ⟨by rw [hX];exact (Blk.new wr zeroDC 40).setRow _,by rw [hX];exact below_setRow ((Below.refl _ wr).alloc (Nat.le_refl _) _) (Nat.le_refl _) _⟩ ?_
   rintro w3 ⟨bX,hb3⟩
   clear hX hc t4
   have hbw3:=below_step hbw hb3
   have hV3:=hV.old hb3
   have cg:=vgreat_any p h w3 (hdd.old hbw3)
   rw [deedVal_cells] at cg
   clear hbw hb3 hV
   go_wp2_with (first|refine wpList_load_blk rfl 40 deedT (.tmp 9) rfl rfl bX rfl ?_)
   refine cg.mono ?_
   clear cg
   rintro e w4 ⟨rfl,hb4⟩
   have hbw4:=below_step hbw3 hb4
   have hV4:=hV3.old hb4
   have bX4:=bX.old hb4
   clear bX hbw3 hV3 hb4
   cases hg:greatD p with
   |true=>
    go_wp2_with fail
    rw [←hab]
    go_roundg (gk-1)
    case measure=>have:=HF.out;omega
    case rel=>exact ⟨k+1,r,V,by have:=HF.out;omega,by go_num,hV4,rfl,by omega,hbw4⟩
   |false=>
    have cp:=vput_any w4 w.heap.size r V hV4 hbw4.size p h (fun W ht=>hdd.old (hbw4.trans (ht.below (fun x hx=>(hV4.lt hx).1) hbw4.size))) (act_len hg)
    rw [deedVal_cells] at cp
    clear hg
    go_wp2_with (first|refine wpList_load_blk rfl 40 deedT (.tmp 9) rfl rfl bX4 rfl ?_)
    refine cp.mono ?_
    clear cp bX4
    rintro e w5 ⟨r5,V5,rfl,hst5,-,hl5,-,-,-⟩
    have hbw5:=hbw4.trans (hst5.below hV4 hbw4.size)
    have hz5:=put_len hl5
    have hv5:=hst5.v
    have hV5:=hst5.at'
    clear hst5 hl5 hV4 hbw4
    go_wp2_with fail
    rw [←hab]
    go_roundg (gk-1)
    case measure=>have:=HF.out;omega
    case rel=>exact ⟨k+1,r5,V5,by have:=HF.out;omega,by go_num,hV5,hv5,by omega,hbw5⟩
  ·obtain rfl:k=n:=by have:=HF.out;omega
   have t4:decide ((k:Int)<(k:Int))=false:=by simp
   clear hkn
   have hsm:=hV.vault.small
   go_wp2_with fail
   refine (vdeeds_any wr w.heap.size r.d V hV.vault).mono ?_
   rintro e w3 ⟨ad,cd,all,rfl,hall,hoa,hb3⟩
   have hA3:=hV.vault.old hb3
   have hbw3:=below_step hbw hb3
   have hall0:=hoa.at
   have hlen3:all.length=V.ds.length:=by
    have:=congrArg List.length hall
    rwa [List.length_map,VaultR.len] at this
   obtain ⟨an,han⟩:∃an,an=all.length:=⟨_,rfl⟩
   rw [←han] at hlen3⊢
   have HAN:=Lib.hid han
   have HL3:=Lib.hid hlen3
   generalize r.d=d at*
   clear hoa hb3 hV hbw han hlen3
   go_wp2_with fail
   refine (vgames_any w3 w.heap.size d V hA3).mono ?_
   rintro e w4 ⟨rfl,hb4⟩
   have hA4:=hA3.old hb4
   have hbw4:=below_step hbw3 hb4
   have hall4:=hall0.old hb4
   have hgl:gamesN V.l≤40:=by have:=gamesN_le V.l;rw [VaultR.len] at this;omega
   obtain ⟨g,hg⟩:∃g,g=gamesN V.l:=⟨_,rfl⟩
   rw [←hg] at hgl⊢
   have HG:=Lib.hid hg
   have HALL:=Lib.hid hall
   clear hg hall hb4 hA3 hbw3 hall0 hsm
   go_wp2_with fail
   go_loopg [11,54] g (fun f cnt i wr=>Gm2 w w.heap.size V.v d V ad all g f cnt i wr)
   case atStart=>exact ⟨0,by omega,rfl,rfl,hA4,rfl,hall4,hbw4⟩
   case round=>
    clear hA4 hbw4 hall4
    obtain ⟨i,hf,rfl,rfl,hA,hvv,hat,hbw⟩:=hrel
    have HF:=Lib.hid hf
    clear hf
    by_cases hig:i<g
    ·have t4:decide ((i:Int)<(g:Int))=true:=by simp;omega
     obtain ⟨go,rfl⟩:∃x,x=gk:=⟨_,rfl⟩
     obtain ⟨wo,rfl⟩:∃x:World,x=wr:=⟨_,rfl⟩
     have han40:an≤40:=by rw [HL3.out];omega
     go_wp2_with fail
     go_loopg [13,59] an (fun f mine j wi=>Gm3 w wo all i an f mine j wi)
     case atStart=>exact ⟨0,none,0,[],by omega,rfl,rfl,rfl,Own.nil _ _ _ _,Below.refl _ _⟩
     case round=>
      obtain ⟨j,am,cm,ms,hf,rfl,rfl,hms,hom,hbi⟩:=hrel
      have HF2:=Lib.hid hf
      have HMS:=Lib.hid hms
      clear hf hms
      by_cases hja:j<an
      ·have t5:decide ((j:Int)<(an:Int))=true:=by simp;omega
       have hjl:j<all.length:=by rw [←HAN.out];exact hja
       obtain ⟨b,o,hab,hbl,hc⟩:=(hat.old hbi).elem j hjl
       have HST:=Lib.hid (show (all.take (j+1)).filter (fun x=>decide (x.1.game=(i:Int)))=(all.take j).filter (fun x=>decide (x.1.game=(i:Int)))++if all[j].1.game=(i:Int) then [all[j]] else [] by
        rw [List.take_succ_eq_append_getElem hjl,List.filter_append]
        by_cases e:all[j].1.game=(i:Int)<;>simp [e])
       generalize all[j]=y at hc HST
       obtain ⟨p,dh⟩:=y
       dsimp only at hc HST
       have hg1:wr.cell? ⟨b,o+j*15+1,none⟩=some (.int .i64 p.game):=hc 1 (by rw [deedCells_len];omega)
       by_cases hpg:p.game=(i:Int)
       ·have t6:(p.game==(i:Int))=true:=by simpa using hpg
        have HST1:=Lib.hid (HST.out.trans (by rw [if_pos hpg]))
        have HMSJ:=Lib.hid (HMS.out)
        have hml40:ms.length≤j:=by
         rw [HMS.out]
         refine Nat.le_trans (List.length_filter_le _ _) ?_
         rw [List.length_take]
         exact Nat.min_le_left _ _
        clear HST hpg
        rw [hab]
        have hzi:=hbi.size
        have HML:=Lib.hid hml40
        have HN40:=Lib.hid hn
        clear hml40 hn
        have hl15:(deedCells p dh).length=15:=rfl
        have HC:=Lib.hid hc
        clear hc
        go_wp2_with (first|refine wpList_load_as rfl 40 deedT _ rfl rfl rfl HC.out rfl ?_|(at_builtin;rw [deed_fold];refine wpList_append_row rfl _ _ 23 rfl deedsT rfl (hom.alloc _) rfl (RowAt.new' wr (deedCells p dh).toArray 40 _ rfl) (by rfl) (by exact all_one _ rfl) (by have:=HML.out;unfold maxLen;omega) (by have:=HML.out;omega) (by simp;omega) ?_;intro a3 c3 w3 ho3 hg3;have hbi3:Below wo.heap.size wo w3:=(hom.alloc _).grown (hbi.alloc hzi _) (by simp) hg3 (by simp;omega)))
        rw [←hab]
        go_roundg (gk-1)
        case measure=>have:=HF2.out;omega
        case rel=>exact ⟨j+1,a3,c3,ms++ [(p,dh)],by have:=HF2.out;omega,by go_num,by rw [List.length_append];rfl,by rw [HST1.out,←HMS.out],by rw [dcells_snoc,List.length_append];exact ho3,hbi3⟩
       ·have HST1:=Lib.hid (HST.out.trans (by rw [if_neg hpg,List.append_nil]))
        have t6:(p.game==(i:Int))=false:=by simpa using hpg
        have HPG:=Lib.hid hpg
        clear HST hpg hc
        rw [hab]
        go_wp2_with fail
        rw [←hab]
        go_roundg (gk-1)
        case measure=>have:=HF2.out;omega
        case rel=>exact ⟨j+1,am,cm,ms,by have:=HF2.out;omega,by go_num,rfl,by rw [HST1.out,←HMS.out],hom,hbi⟩
      ·obtain rfl:j=an:=by have:=HF2.out;omega
       have t5:decide ((j:Int)<(j:Int))=false:=by simp
       have hmf:ms=all.filter (fun x=>decide (x.1.game=(i:Int))):=by
        rw [HMS.out,List.take_of_length_le (by rw [HAN.out];exact Nat.le_refl _)]
       have hmp:plainD ms=ofG V.l (i:Int):=by
        rw [hmf,filter_plain]
        show ofG (all.map Prod.fst) _=_
        rw [HALL.out]
       have hml40:ms.length≤40:=by
        rw [hmf]
        exact Nat.le_trans (List.length_filter_le _ _) (by rw [←HAN.out];exact han40)
       have hmat:DeedsAt wr am ms:=⟨hom.row,fun x hx=>((hat.old hbi).each x (List.mem_filter.1 (hmf▸hx)).1)⟩
       have HMP:=Lib.hid hmp
       have hAr:=hA.old hbi
       have hbwr:=below_step hbw hbi
       have hatr:=hat.old hbi
       clear hmf hmp HMS hom hbi hA hbw hat
       have cg:=vgame_any wr w.heap.size d V hAr (i:Int) (wf64_small (by omega))
       have hgood:=hAr.good.first i (by rw [←HG.out];exact hig)
       go_wp2_with fail
       refine cg.mono ?_
       clear cg
       intro e w6 hq
       unfold VGameP at hq
       rw [if_pos ⟨by omega,by rw [←HG.out];omega⟩] at hq
       obtain ⟨aq,cq,gs,rfl,hgs,hog,hb6⟩:=hq
       obtain ⟨x1,r1',hx1,hk1⟩:=hgood
       have hgl1:gs.length=(ofG V.l (i:Int)).length:=by rw [←hgs,List.length_map]
       have hgpos:0<gs.length:=by rw [hgl1,hx1];simp
       obtain ⟨b0,o0,hab0,hbl0,hc0⟩:=hog.at.elem 0 hgpos
       have hkind:w6.cell? ⟨b0,o0,none⟩=some (.int .i8 1):=by
        have q:=hc0 0 (by rw [deedCells_len];omega)
        have e1:(gs[0]).1=x1:=by
         have:=congrArg (fun l=>l[0]?) hgs
         rw [hx1] at this
         simpa [List.getElem?_eq_getElem hgpos] using this
        have e2:(deedCells gs[0].1 gs[0].2)[0]'(by rw [deedCells_len];omega)= .int .i8 (gs[0]).1.kind:=rfl
        rw [e2,e1,hk1] at q
        simpa using q
       have hgl40:gs.length≤40:=by
        have:=ofG_le V.l (i:Int)
        rw [VaultR.len] at this
        omega
       have hss:=HG.out▸hAr.good.range
       have cs:=lsames_any w6 aq am gs.length ms.length cq cm gs ms hog.at (hmat.old hb6) rfl rfl (by omega) (by omega)
       rw [decide_eq_true (show plainD gs=plainD ms from (show plainD gs=ofG V.l (i:Int) from hgs).trans HMP.out.symm)] at cs
       obtain ⟨gn,hgn⟩:∃gn,gn=gs.length:=⟨_,rfl⟩
       have tz:((gn:Int)==0)=false:=by simp;omega
       have hg0:0<gn:=by rw [hgn];exact hgpos
       have ti:decide ((i:Int)>40)=false:=by simp;omega
       have ti2:decide ((40:Int)<(i:Int))=false:=by simp;omega
       have hsum:sumG V.l (i+1)=sumG V.l i+gn:=by rw [hgn,hgl1];rfl
       have hsl:=sumG_le V.l (i+1)
       have hvl:V.l.length≤40:=by rw [VaultR.len];omega
       have hsl2:sumG V.l (i+1)≤1681:=Nat.le_trans hsl (Nat.le_trans (Nat.mul_le_mul (show i+1≤41 by omega) (show V.l.length≤41 by omega)) (by omega))
       have ts:IntKind.i64.wrap ((sumG V.l i:Int)+(gn:Int))=(sumG V.l (i+1):Int):=by rw [IntKind.wrap_i64];omega
       have hA6:=hAr.old hb6
       have hbw6:=below_step hbwr hb6
       have hat6:=hatr.old hb6
       rw [←hgn] at cs⊢
       clear hgn hgl1 hgpos hc0 hx1 hk1 hgs hog hb6 hss hsum hsl hsl2 hvl hgl40 hml40 hmat hAr hbwr hatr
       rw [hab0] at cs⊢
       go_wp2_with fail
       refine cs.mono ?_
       clear cs
       rintro e w7 ⟨rfl,hb7⟩
       have hkind7:w7.cell? ⟨b0,o0,none⟩=some (.int .i8 1):=(hb7.cell (p:=⟨b0,o0,none⟩) hbl0).trans hkind
       have hA7:=hA6.old hb7
       have hbw7:=below_step hbw6 hb7
       have hat7:=hat6.old hb7
       clear hb7 hkind hA6 hbw6 hat6 hab0 hbl0
       go_wp2_with fail
       go_roundg (go-1)
       case measure=>have:=HF.out;omega
       case rel=>exact ⟨i+1,by have:=HF.out;omega,by go_num,rfl,hA7,rfl,hat7,hbw7⟩
    ·obtain rfl:i=g:=by have:=HF.out;omega
     have t4:decide ((i:Int)<(i:Int))=false:=by simp
     have hsum:sumG V.l i=an:=by
      rw [HG.out,sumG_all V.l hA.good.range,VaultR.len,HL3.out]
     rw [hsum]
     clear hsum hig hgl hlen
     go_wp2_with fail
     refine (vgames_any wr w.heap.size d V hA).mono ?_
     rintro e w8 ⟨rfl,hb8⟩
     have hA8:=hA.old hb8
     have hbw8:=below_step hbw hb8
     rw [←HG.out]
     have cg:=vgame_any w8 w.heap.size d V hA8 (i:Int) (wf64_small (by have:=gamesN_le V.l;have:=hA8.small.2.1;rw [←HG.out] at this;omega))
     clear hb8 hA hbw hat
     go_wp2_with fail
     refine cg.mono ?_
     clear cg
     intro e w9 hq
     unfold VGameP at hq
     rw [if_neg (fun h=>by have:=h.2;rw [←HG.out] at this;omega)] at hq
     obtain ⟨rfl,hb9⟩:=hq
     have hbw9:=below_step hbw8 hb9
     clear hb9 hbw8 hA8
     go_wp2_with fail
     refine (vwakes_any _).mono ?_
     rintro e wz ⟨rfl,hbz⟩
     have hbwz:Below w.heap.size w wz:=hbw9.trans (hbz.mono hbw9.size)
     go_wp2_with fail
     go_ret
     exact ⟨rfl,hbwz⟩
end
end Go.Proofs.YtioigihakjlopaaGreat

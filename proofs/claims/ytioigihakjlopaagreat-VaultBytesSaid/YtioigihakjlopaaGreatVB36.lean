/- Texts put together and cut to what is used: VaultW. -/
import Derived.Test.YtioigihakjlopaaGreatVB35
namespace Go.Proofs.YtioigihakjlopaaGreat
set_option linter.unusedVariables false
set_option linter.unusedSimpArgs false
section
open Go.RowKit Go.Maps
set_option maxRecDepth 20000
set_option maxHeartbeats 1000000 in
set_option maxRecDepth 40000 in
theorem veight_own (n:Int) (w:World):Calls Tryz.prog 56 #[.int .i64 n] w fun e w'=>e= .returned (.slice (some ⟨w.heap.size,0,none⟩) 8 8)∧Own w' w.heap.size 5 1 (some ⟨w.heap.size,0,none⟩) 8 8 ((be8 n).map bv)∧Below w.heap.size w w':=by
 have hms:=fun W=>make8 W
 obtain ⟨H,hH⟩:∃H,H=w.heap.size:=⟨_,rfl⟩
 rw [←hH]
 have hB0:=Blk.new w (vA 8 fun _=> .int .u8 0) 5
 go_enter Tryz.func56,Tryz.ntmps56
 go_upto_region 2 with fail
 clear hms
 rw [←hH] at hB0⊢
 refine wp_forget (fun W0=>Ve1 w H n 8 (.int .i64 0) W0) ⟨0,by omega,rfl,hB0.ofV fun j _=>by rw [if_neg (by omega)],by rw [hH];(try unfold Kept);repeat (first|assumption|exact Below.refl _ _|exact below_undrew (Below.refl _ _)|exact Below.mono (by assumption) (by first|(simp;done)|(simp;omega)|omega)|refine below_setRow ?_ (by first|(simp;done)|(simp;omega)|omega) _|refine Below.setCell ?_ (by first|(simp;done)|(simp;omega)|omega) _|refine Below.alloc ?_ (by first|(simp;done)|(simp;omega)|omega) _|refine below_drewN ?_ _|refine Below.drew ?_|refine below_undrew ?_|refine below_step ?_ (by assumption))⟩ ?_
 have HH:=Lib.hid hH
 have hHw:w.heap.size≤H:=Nat.le_of_eq hH.symm
 clear hB0 hH
 intro w1 hst
 go_wp2_with fail
 go_loopg [8] 8 (fun g i wr=>Ve1 w H n g i wr)
 case atStart=>exact hst
 case round=>
  clear hst
  obtain ⟨t,hf,rfl,hB,hb⟩:=hrel
  have HF:=Lib.hid hf
  clear hf
  by_cases ht:t<8
  ·have HE:=Lib.hid fun t p=>be8_div n t p
   have f0:=hB.free
   have h8:t=0∨t=1∨t=2∨t=3∨t=4∨t=5∨t=6∨t=7:=by omega
   rcases h8 with rfl|rfl|rfl|rfl|rfl|rfl|rfl|rfl
   all_goals
    have c0:=hB.atV (by omega) rfl
    go_wp2_with fail
    clear c0 f0
    go_roundg (gk-1)
    case rel=>
     have hf:=HF.out
     refine ⟨_,by omega,by go_num,(hB.setV (by omega) _).ofV fun j _=>be8_step n _ j _ ?_,hb.setCell (by show H≤H;omega) _⟩
     first
      |exact HE.out _ _ rfl
      |(have E:=HE.out 7 1 rfl;rw [Int.ediv_one] at E;exact E)
    case measure=>have hf:=HF.out;omega
  ·obtain rfl:t=8:=by have:=HF.out;omega
   go_wp2_with fail
   go_ret
   have hTT:=hB.ofV (g:=fun j=>bv (be8b n j)) fun j hj=>if_pos hj
   refine ⟨rfl,⟨by rw [List.length_map,be8_length],.inr ⟨H,8,_,rfl,Nat.le_refl _,hTT,Nat.le_refl _,by unfold maxLen;omega,vA_size _ _,?_⟩⟩,hb⟩
   simp only [vA,vL,be8,be8b,List.map_map]
   rw [List.take_of_length_le (by simp)]
   rfl
theorem setDown {B:Nat} {w:World} {r:DiskR} {V:VaultR} (h:VL w B r V):VStep B w r V (w.setCell ⟨V.v,5,none⟩ (.bool true)) r {V with down:=true}:=by
 have ha:=h.vault
 have ho:∀x,x≠V.v→(w.setCell ⟨V.v,5,none⟩ (.bool true)).heap[x]? =w.heap[x]? :=fun x hx=>heap_setCell_other w ⟨V.v,5,none⟩ x _ hx
 have hvv:vrest V V.v:= .inl rfl
 have hlv:∀x,lfoot V.R x→x≠V.v:=fun x hx e=>ha.sepl V.v hvv (e▸hx)
 have hfv:∀x,foot r x→x≠V.v:=fun x hx e=>h.apart V.v (.inr hvv) (e▸hx)
 have hcell:∀x cs t,Blk w x cs t→t≠93→x≠V.v:=fun x cs t hb ht=>hb.ne ha.blk ht
 have hat:VaultAt (w.setCell ⟨V.v,5,none⟩ (.bool true)) B r.d {V with down:=true}:=by
  refine ⟨ha.ge,?_,ha.master.keepAt fun x hx=> ?_,ha.mz,ha.log.keep fun x hx=>ho x (hlv x hx),ha.deeds.keepAt fun x hx=> ?_,fun x hx=>(ha.each x hx).keepB fun y hy=> ?_,ha.gm.keep (ho _ fun e=>ha.blk.ne_gmap ha.gm e.symm),
   fun g hg=>(ha.rows g hg).keepAt fun x hx=> ?_,ha.sepf,ha.sepi,ha.bm.keep (ho _ fun e=>ha.blk.ne_gmap ha.bm e.symm),fun y hy=>⟨(ha.boxes y hy).1,(ha.boxes y hy).2.1,(ho _ (hcell _ _ _ (ha.boxes y hy).2.2 (by decide))).trans (ha.boxes y hy).2.2⟩,ha.sepl,ha.good,ha.cnt⟩
  ·have:=ha.blk.set 5 (.bool true)
   simpa [vaultCells] using this
  ·obtain ⟨_,_,cur,hb⟩:=ha.master.block_lt hx
   exact ho _ (hcell _ _ _ hb (by decide))
  ·obtain ⟨_,_,cur,hb⟩:=ha.deeds.block_lt hx
   exact ho _ (hcell _ _ _ hb (by decide))
  ·obtain ⟨_,_,cur,t,hb,ht⟩:=(ha.each x hx).innerLt hy
   exact ho _ (hcell _ _ _ hb (by rcases ht with rfl|rfl<;>decide))
  ·obtain ⟨_,_,cur,hb⟩:=(ha.rows g hg).block_lt hx
   exact ho _ (hcell _ _ _ hb (by decide))
 exact ⟨(Turn.refl _ _).setCell (x:=⟨V.v,5,none⟩) (.inl (.inr (.inr hvv))) _,⟨h.disk.keep fun x hx=>ho x (hfv x hx),hat,h.apart⟩,fun x hx=> .inl hx,rfl,rfl,rfl⟩
def putA (p:DiskP) (V:VaultR) (x:DeedP):Int:=lappE p V.R (loadV V.m V.l x)
def putS (p:DiskP) (V:VaultR) (x:DeedP):DiskP×Int:=syncP (lappD p V.R (loadV V.m V.l x)) V.R.nm
def putOk (V:VaultR) (x:DeedP):Bool:=mayD x&&followsD V.l x
def putE (p:DiskP) (V:VaultR) (x:DeedP):Int:=if V.down=true then 5 else if putOk V x=false then 2 else if 65504<(bytesD x).length then 3 else if putA p V x≠0 then putA p V x else (putS p V x).2
def putD (p:DiskP) (V:VaultR) (x:DeedP):DiskP:=if V.down=true then p else if putOk V x=false then p else if 65504<(bytesD x).length then p else if putA p V x≠0 then lappD p V.R (loadV V.m V.l x) else (putS p V x).1
def putDn (p:DiskP) (V:VaultR) (x:DeedP):Bool:=if V.down=true then true else if putOk V x=false then false else if 65504<(bytesD x).length then false else if putA p V x≠0 then decide (putA p V x≠3∧putA p V x≠100) else decide ((putS p V x).2≠0)
def putLs (p:DiskP) (V:VaultR) (x:DeedP):List (List UInt8):=if V.down=true then V.R.ls else if putOk V x=false then V.R.ls else if 65504<(bytesD x).length then V.R.ls else if putA p V x≠0 then V.R.ls else V.R.ls++ [loadV V.m V.l x]
def VPutP (B:Nat) (w:World) (r:DiskR) (V:VaultR) (x:DeedP) (e:Ending) (w':World):Prop:=
 ∃(r':DiskR) (V':VaultR),e= .returned (.int .i64 (putE r.p V x))∧VStep B w r V w' r' V'∧r'.p=putD r.p V x∧V'.l=(if putE r.p V x=0 then V.l++ [x] else V.l)∧V'.R.ls=putLs r.p V x∧V'.R.nm=V.R.nm∧V'.down=putDn r.p V x
set_option maxHeartbeats 8000000 in
theorem vput_any (w:World) (B:Nat) (r:DiskR) (V:VaultR) (h:VL w B r V) (hB:B≤w.heap.size) (x:DeedP) (hx:DeedH) (hd:∀W,Turn (afoot r V) w W→DeedAt W x hx) (hz:(actionI x.act).length<100000000000):
  Calls Tryz.prog 13 #[.pointer (some ⟨V.v,0,none⟩),deedVal x hx] w (VPutP B w r V x):=by
 obtain ⟨S,hS⟩:∃S,S=VPutP B w r V x:=⟨_,rfl⟩
 rw [←hS]
 have HS:=Lib.hid hS
 clear hS
 have hOk:=Lib.hid (rfl:putOk V x=(mayD x&&followsD V.l x))
 rw [deedVal_cells]
 go_enter Tryz.func13,Tryz.ntmps13
 go_upto_region 1 with (fail)
 obtain ⟨X,hX⟩:∃X,X=w.heap.size:=⟨_,rfl⟩
 rw [←hX]
 refine wp_forget (fun W=>Blk W X (deedCells x hx).toArray 40∧Below w.heap.size w W) ⟨by rw [hX];exact Blk.new _ _ _,by (try unfold Kept);repeat (first|assumption|exact Below.refl _ _|exact below_undrew (Below.refl _ _)|exact Below.mono (by assumption) (by first|(simp;done)|(simp;omega)|omega)|refine below_setRow ?_ (by first|(simp;done)|(simp;omega)|omega) _|refine Below.setCell ?_ (by first|(simp;done)|(simp;omega)|omega) _|refine Below.alloc ?_ (by first|(simp;done)|(simp;omega)|omega) _|refine below_drewN ?_ _|refine Below.drew ?_|refine below_undrew ?_|refine below_step ?_ (by assumption))⟩ ?_
 rintro W1 ⟨bX,hb1⟩
 have hXw:w.heap.size≤X:=Nat.le_of_eq hX.symm
 clear hX
 have h1:=h.old hb1
 have cd:W1.cell? ⟨V.v,5,none⟩=some (.bool V.down):=h1.vault.blk.cell rfl
 cases hdn:V.down with
 |true=>
  rw [hdn] at cd
  go_wp2_with fail
  rw [HS.out]
  have e1:putE r.p V x=5:=by unfold putE;rw [if_pos hdn]
  exact ⟨r,V,by first|(rw [e1];done)|(rw [e1];rfl),VStep.old h hb1,by unfold putD;rw [if_pos hdn],by rw [e1];rfl,by unfold putLs;rw [if_pos hdn],rfl,by unfold putDn;rw [if_pos hdn];exact hdn⟩
 |false=>
  rw [hdn] at cd
  have cb:=vbytes_any x hx W1 (hd W1 (Turn.of_below hb1)) hz
  rw [deedVal_cells] at cb
  have HDN:=Lib.hid hdn
  go_wp2_with (refine wpList_load_blk rfl 40 deedT (.tmp 3) rfl rfl bX rfl ?_)
  refine cb.mono ?_
  clear cb cd
  intro e W2 hvb
  unfold VBytesP at hvb
  cases hmay:mayD x with
  |false=>
   rw [hmay,if_neg (by simp)] at hvb
   obtain ⟨rfl,hb2⟩:=hvb
   go_wp2_with fail
   rw [HS.out]
   have e0:putOk V x=false:=by unfold putOk;rw [hmay];rfl
   have nd:¬V.down=true:=by rw [hdn];simp
   have e1:putE r.p V x=2:=by unfold putE;rw [if_neg nd,if_pos e0]
   exact ⟨r,V,by first|(rw [e1];done)|(rw [e1];rfl),VStep.old h (below_step hb1 hb2),by unfold putD;rw [if_neg nd,if_pos e0],by rw [e1];rfl,by unfold putLs;rw [if_neg nd,if_pos e0],rfl,by unfold putDn;rw [if_neg nd,if_pos e0];exact hdn⟩
  |true=>
   rw [hmay,if_pos rfl] at hvb
   obtain ⟨ba,bc,rfl,hbo,hb2⟩:=hvb
   have hb02:=below_step hb1 hb2
   have h2:=h.old hb02
   have bX2:=bX.old hb2
   have hb2B:Below B w W2:=hb02.mono hB
   go_wp2_with fail
   refine (vfollows_any W2 B r.d V h2.vault X x hx bX2).mono ?_
   rintro e W3 ⟨rfl,hb3⟩
   have hb03:=below_step hb02 hb3
   have h3:=h.old hb03
   have bX3:=bX2.old hb3
   have hbo3:=hbo.old hb3
   have hb3B:Below B w W3:=hb03.mono hB
   clear h2 bX2 hb2B
   cases hfo:followsD V.l x with
   |false=>
    go_wp2_with fail
    rw [HS.out]
    have e0:putOk V x=false:=by unfold putOk;rw [hmay,hfo];rfl
    have nd:¬V.down=true:=by rw [hdn];simp
    have e1:putE r.p V x=2:=by unfold putE;rw [if_neg nd,if_pos e0]
    exact ⟨r,V,by first|(rw [e1];done)|(rw [e1];rfl),VStep.old h hb03,by unfold putD;rw [if_neg nd,if_pos e0],by rw [e1];rfl,by unfold putLs;rw [if_neg nd,if_pos e0],rfl,by unfold putDn;rw [if_neg nd,if_pos e0];exact hdn⟩
   |true=>
    obtain ⟨g,hg⟩:∃g:Nat,x.game=(g:Int):=⟨x.game.toNat,by have:=(follows_game hfo).1;omega⟩
    have hsm:=h3.vault.small
    have hg4:g≤4096:=by
     have q1:=(follows_game hfo).2.2
     by_cases hk:x.kind=1
     ·have:=q1.2 hk;omega
     ·have:=q1.1 hk;omega
    obtain ⟨sa,sc,hlook⟩:=h3.vault.rowLook hg4
    obtain ⟨n,hn⟩:∃n,n=(ofG V.l (g:Int)).length:=⟨_,rfl⟩
    rw [←hn] at hlook
    have hn4:n≤4096:=by rw [hn,←placesOf_len];exact hsm.2.2 _
    obtain ⟨bn,hbn⟩:∃bn,bn=(bytesD x).length:=⟨_,rfl⟩
    rw [←hbn] at hbo3
    rw [←hbn]
    have HN:=Lib.hid hn
    have HG:=Lib.hid hg
    have HBN:=Lib.hid hbn
    have HM:=Lib.hid hmay
    have HF:=Lib.hid hfo
    clear hn hbn hmay hfo hdn hbo
    go_upto_region 8 with fail
    have nvb:V.v≠V.mb:=h3.vault.blk.ne_gmap h3.vault.bm
    have nXb:X≠V.mb:=bX3.ne_gmap h3.vault.bm
    have L0:∀W,But V.mb W3.drew W→∀i,W.cell? ⟨V.v,i,none⟩=(vaultCells V)[i]? :=fun W hW=>(h3.vault.blk.drew.but hW nvb).rule
    have L1:∀W,But V.mb W3.drew W→W.cell? ⟨X,1,none⟩=some (.int .i64 (g:Int)):=fun W hW=>by rw [←HG.out];exact (bX3.drew.but hW nXb).cell rfl
    have L2:∀W,But V.mb W3.drew W→(Instr.lookup 90 (.map (some V.mg)) (.int .i64 (g:Int)) false).run Tryz.prog W= .ok (.slice sa n sc) W:=fun W hW=>hlook W (hW.2 V.mg h3.vault.gm.lt h3.vault.ge.2.2.2)
    have hu:IntKind.u64.wrap (n:Int)=(n:Int):=by
     simp only [IntKind.wrap,IntKind.bits,IntKind.signed]
     simp
     omega
    unfold vaultCells at L0
    clear hlook
    refine wp_region_treeB V.mb (.step 0 (.step 1 (.step 2 (.step 4 (.step 5 (.step 6 (.step 7 (.step 8 (.step 9 (.step 10 (.step 11 (.step 12 (.step 13 (.step 3 (.step 14 (.step 15 (.step 16 (.step 17 (.step 18 (.step 19 .done)))))))))))))))))))) (by kernel_rfl) (by kernel_rfl) (fun c a d v w h=>by cases d<;>exact h) ?_
    repeat (first|(refine tree_skip rfl (by rfl) ?_;simp only [Act.put,List.setIfInBounds_toArray,List.set])|(refine tree_quiet (v:= ?_) rfl rfl (by rfl) ?_ ?_;rotate_left;(intro W hW;go_simp);(try with_reducible rfl);simp only [Act.put,List.setIfInBounds_toArray,List.set]))
    refine tree_loud rfl rfl (by rfl) (fun K hK=> ?_)
    go_wp2_with fail
    have h3d:VaultAt W3.drew B r.d V:=h3.vault.old (Below.refl _ _).drew
    refine (vbox_any W3.drew B r.d V h3d (by have:=hb03.size;simp;omega) g hg4).mono ?_
    rintro e W4 ⟨bb,bl,rfl,hbx,hv4,ht4⟩
    go_wp2_with fail
    refine hK _ _ ⟨ht4.size,fun x hx hne=>ht4.block x hx hne⟩ ?_
    clear hK K L0 L1 L2
    have h3v:VL W3.drew B r V:=h3.old (Below.refl _ _).drew
    have hs4:=hv4.step h3v
    have hs04:VStep B w r V W4 r {V with bl:=bl}:=(VStep.old h hb03.drew).trans hs4
    have bX4:Blk W4 X (deedCells x hx).toArray 40:=(ht4.block X bX3.lt nXb).trans bX3
    have hb4:BytesAt W4 ba (bytesD x):=BytesAt.notMap (w:=W3.drew) hbo3.row h3d.bm ht4
    have hB4:Below B w W4:=hs04.below h hB
    have hz4:=hs04.turn.size
    repeat (first|(refine tree_skip rfl (by rfl) ?_;simp only [Act.put,List.setIfInBounds_toArray,List.set])|(refine tree_quiet (v:= ?_) rfl rfl (by rfl) ?_ ?_;rotate_left;(intro W hW;go_simp);(try with_reducible rfl);simp only [Act.put,List.setIfInBounds_toArray,List.set]))
    refine tree_loud rfl rfl (by rfl) (fun K hK=> ?_)
    go_wp2_with fail
    by_cases hlong:65504<bn
    ·have cs:=seal_long bb n ba bn bc W4 hlong (by have:=hbo3.le_max;exact this)
     refine cs.mono ?_
     rintro e W5 ⟨rfl,rfl⟩
     go_wp2_with fail
     refine hK _ _ ⟨Nat.le_refl _,fun _ _ _=>rfl⟩ ?_
     clear hK K
     repeat (first|(refine tree_skip rfl (by rfl) ?_;simp only [Act.put,List.setIfInBounds_toArray,List.set])|(refine tree_quiet (v:= ?_) rfl rfl (by rfl) ?_ ?_;rotate_left;(intro W hW;go_simp);(try with_reducible rfl);simp only [Act.put,List.setIfInBounds_toArray,List.set]))
     refine tree_done ?_
     go_wp2_with fail
     rw [HS.out]
     have e0:¬putOk V x=false:=by unfold putOk;rw [HM.out,HF.out];simp
     have nd:¬V.down=true:=by rw [HDN.out];simp
     have hl2:65504<(bytesD x).length:=by rw [←HBN.out];exact hlong
     have e1:putE r.p V x=3:=by unfold putE;rw [if_neg nd,if_neg e0,if_pos hl2]
     exact ⟨r,_,by first|(rw [e1];done)|(rw [e1];rfl),hs04,by unfold putD;rw [if_neg nd,if_neg e0,if_pos hl2],by rw [e1];rfl,by unfold putLs;rw [if_neg nd,if_neg e0,if_pos hl2],rfl,by unfold putDn;rw [if_neg nd,if_neg e0,if_pos hl2];exact HDN.out⟩
    ·have cs:=seal_any bb V.m g n ba bn bc (bytesD x) W4 hbx hb4 HBN.out.symm (by omega) (Nat.lt_of_le_of_lt hg4 (by decide)) (Nat.lt_of_le_of_lt hn4 (by decide))
     refine cs.mono ?_
     clear cs
     rintro e W5 ⟨qa,qc,rfl,hqo,hb5⟩
     go_wp2_with fail
     refine hK _ _ ⟨hb5.size,fun x hx _=>hb5.block x hx⟩ ?_
     clear hK K
     repeat (first|(refine tree_skip rfl (by rfl) ?_;simp only [Act.put,List.setIfInBounds_toArray,List.set])|(refine tree_quiet (v:= ?_) rfl rfl (by rfl) ?_ ?_;rotate_left;(intro W hW;go_simp);(try with_reducible rfl);simp only [Act.put,List.setIfInBounds_toArray,List.set]))
     refine tree_done ?_
     have hs05:VStep B w r V W5 r {V with bl:=bl}:=hs04.trans (VStep.old hs04.at' hb5)
     have bX5:=bX4.old hb5
     have h5:=hs05.at'
     have hz5:=hs05.turn.size
     obtain ⟨L,hL⟩:∃L,L=loadV V.m V.l x:=⟨_,rfl⟩
     have hLs:L=be8 (g:Int)++sealL V.m g n (bytesD x):=by
      rw [hL]
      unfold loadV
      rw [HG.out,Int.toNat_natCast,HN.out]
     have HL:=Lib.hid hL
     have HLs:=Lib.hid hLs
     clear hL hLs hs4 hv4 hbx hb4 h3v h3d
     have hbl5:(bytesD x).length≤65504:=by rw [←HBN.out];omega
     go_upto_region 11 with fail
     have L0:∀W,KeepAt (fun y=>y=V.v∨y=X) W5.drew W→∀i,W.cell? ⟨V.v,i,none⟩=(vaultCells V)[i]? :=fun W hW i=>(World.cell?_of_block (a:=⟨V.v,i,none⟩) (hW.2 V.v (.inl rfl))).trans (h5.vault.blk.rule i)
     have L1:∀W,KeepAt (fun y=>y=V.v∨y=X) W5.drew W→W.cell? ⟨X,1,none⟩=some (.int .i64 (g:Int)):=fun W hW=>by
      rw [←HG.out,World.cell?_of_block (a:=⟨X,1,none⟩) (hW.2 X (.inr rfl))];exact bX5.cell rfl
     unfold vaultCells at L0
     have hvl5:=h5.vault.blk.lt
     have hXl5:=bX5.lt
     refine wp_region_treeR false (KeepAt (fun y=>y=V.v∨y=X)) (KeepAt.refl _) (fun _ _ _ h1 h2=>KeepAt.trans h1 h2) (.step 0 (.step 1 (.step 2 (.step 3 (.step 4 (.step 5 (.step 7 (.step 6 (.step 8 (.step 9 (.step 10 (.step 11 (.step 12 (.step 13 .done)))))))))))))) (by kernel_rfl) (by kernel_rfl) (fun c a d v w h=>by cases d<;>exact h) ?_
     repeat (first|(refine tree_skip rfl (by rfl) ?_;simp only [Act.put,List.setIfInBounds_toArray,List.set])|(refine tree_quiet (v:= ?_) rfl rfl (by rfl) ?_ ?_;rotate_left;(intro W hW;go_simp);(try with_reducible rfl);simp only [Act.put,List.setIfInBounds_toArray,List.set]))
     refine tree_loud rfl rfl (by rfl) (fun K hK=> ?_)
     go_wp2_with fail
     refine (veight_own (g:Int) _).mono ?_
     rintro e W6 ⟨rfl,ho6,hb6⟩
     go_wp2_with fail
     refine hK _ _ (KeepAt.below hb6 fun y hy=>by rcases hy with rfl|rfl<;>assumption) ?_
     clear hK K
     have hb56:Below W5.heap.size W5 W6:=below_drop hb6
     refine tree_loud rfl rfl (by rfl) (fun K hK=> ?_)
     refine wp_append_row (.tmp 56) (.tmp 57) 22 rfl bytesT' rfl ho6 rfl (hqo.old hb56).row (by rw [List.length_map,sealL_length];omega) (bv_one _) (by unfold maxLen;omega) (by omega) (by have:=hb56.size;simp;omega) ?_
     intro a7 c7 W7 ho7 hg7
     have hW6:W6.drew.heap.size=W6.heap.size:=rfl
     have hb67:Below W5.heap.size W5 W7:=ho6.grown hb56 (by simp) hg7 hb56.size
     have hkeep7:∀y,y<W5.heap.size→W7.heap[y]? =W6.heap[y]? :=fun y hy=>(hb67.block y hy).trans (hb56.block y hy).symm
     refine hK _ _ ⟨hg7.size,fun y hy=>hkeep7 y (by rcases hy with rfl|rfl<;>assumption)⟩ ?_
     clear hK K
     have h7:=h5.old hb67
     have hLr:BytesAt W7 a7 L:=by
      rw [HLs.out]
      unfold BytesAt
      rw [List.map_append]
      exact ho7.row
     have hLlen:L.length=8+((bytesD x).length+32):=by rw [HLs.out,List.length_append,be8_length,sealL_length]
     have hna:L≠ []→∀ad,a7=some ad→¬(foot r ad.block∨lfoot V.R ad.block):=fun _ ad e hf=>by
      have q1:=(ho7.block_lt e).1
      have q2:=(h5.dl.lt hf).2
      simp at q1
      omega
     repeat (first|(refine tree_skip rfl (by rfl) ?_;simp only [Act.put,List.setIfInBounds_toArray,List.set])|(refine tree_quiet (v:= ?_) rfl rfl (by rfl) ?_ ?_;rotate_left;(intro W hW;go_simp);(try with_reducible rfl);simp only [Act.put,List.setIfInBounds_toArray,List.set]))
     refine tree_loud rfl rfl (by rfl) (fun K hK=> ?_)
     go_wp2_with fail
     have ca:=lappend_any W7 B r V.R h7.dl (by have:=hb67.size;omega) a7 _ c7 L hLr hLlen hna
     unfold LAppRes at ca
     refine ca.mono ?_
     clear ca
     rintro e W8 ⟨rfl,r8,R8,hp8,hl8,-,hst8⟩
     have bX7:Blk W7 X (deedCells x hx).toArray 40:=bX5.old hb67
     have hnX:¬(foot r X∨lfoot V.R X):=fun hf=>by have:=(h.dl.lt hf).2;omega
     have hnv:¬(foot r V.v∨lfoot V.R V.v):=fun hf=>hf.elim (fun hf=>h.apart V.v (.inr (.inl rfl)) hf) (fun hf=>h.vault.sepl V.v (.inl rfl) hf)
     have bX8:Blk W8 X (deedCells x hx).toArray 40:=(hst8.turn.block X bX7.lt hnX).trans bX7
     obtain ⟨A,hA⟩:∃A,A=lappE r.p V.R L:=⟨_,rfl⟩
     have hcnt8:V.ds.length≤R8.ls.length:=by
      have q:=h.vault.cnt
      rw [hl8]
      unfold lappL
      split
      ·rw [List.length_append];omega
      ·exact q
     have hv8:VStep B W7 r {V with bl:=bl} W8 r8 {V with bl:=bl,R:=R8}:=LStep.vault (V:={V with bl:=bl}) (V':={V with bl:=bl,R:=R8}) hst8 h7 rfl hcnt8
     have hs08:=hs05.trans ((VStep.old h5 hb67).trans hv8)
     have hBW8:Below B w W8:=hs08.below h hB
     have hAx:putA r.p V x=A:=by unfold putA;rw [←HL.out,hA]
     have hl8':R8.ls=if A=0 then V.R.ls++ [L] else V.R.ls:=by rw [hl8,hA];rfl
     have hRn8:R8.nm=V.R.nm:=hst8.nm
     rw [←hA]
     generalize lappI r.p V.R L=ai
     have HA:=Lib.hid hA
     have HAx:=Lib.hid hAx
     have HL8:=Lib.hid hl8'
     have HP8:=Lib.hid hp8
     have HRN:=Lib.hid hRn8
     have e0:¬putOk V x=false:=by unfold putOk;rw [HM.out,HF.out];simp
     have nd:¬V.down=true:=by rw [HDN.out];simp
     have nl:¬65504<(bytesD x).length:=by omega
     have HE0:=Lib.hid e0
     have HND:=Lib.hid nd
     have HNL:=Lib.hid nl
     clear hA hl8' hp8 hRn8 e0 nd nl hAx hl8
     go_wp2_with fail
     refine hK _ _ ⟨hst8.turn.size,fun y hy=> ?_⟩ ?_
     ·rcases hy with rfl|rfl
      ·exact hst8.turn.block _ (h7.vault.blk.lt) hnv
      ·exact hst8.turn.block _ bX7.lt hnX
     clear hK K L0 L1 hna hLr hLlen
     repeat (first|(refine tree_skip rfl (by rfl) ?_;simp only [Act.put,List.setIfInBounds_toArray,List.set])|(refine tree_quiet (v:= ?_) rfl rfl (by rfl) ?_ ?_;rotate_left;(intro W hW;go_simp);(try with_reducible rfl);simp only [Act.put,List.setIfInBounds_toArray,List.set]))
     refine tree_done ?_
     have h8:=hs08.at'
     have bv8:=h8.vault.blk
     have cv1:W8.cell? ⟨V.v,1,none⟩=some (.pointer (some ⟨R8.l,0,none⟩)):=bv8.cell rfl
     clear hkeep7 hW6 hg7 ho7 ho6 hb6 hb67 hb56 hqo hbo3 ht4 hs04 hs05 h5 h7 hv8 hsm hg hnv hb1 hb2 hb02 hb3 hb03 hb3B bX bX3 bX4 bX5 h1 h3 hB4 hBW8 hb5 hu nvb nXb hvl5 hXl5 hz4 hz5 hOk hlong hz hbl5
     have HNX:=Lib.hid hnX
     clear hnX
     by_cases hA0:A=0
     rotate_left 1
     ·have tA0:(A==0)=false:=by simpa using hA0
      have hAx0:putA r.p V x≠0:=by rw [HAx.out];exact hA0
      have e1:putE r.p V x=A:=by unfold putE;rw [if_neg HND.out,if_neg HE0.out,if_neg HNL.out,if_pos hAx0,HAx.out]
      have hfin:∀(V':VaultR) (W':World),VStep B w r V W' r8 V'→V'.l=V.l→V'.R=R8→V'.down=decide (A≠3∧A≠100)→S (.returned (.int .i64 A)) W':=fun V' W' q1 q2 q3 q4=>by
       rw [HS.out]
       refine ⟨r8,V',by rw [e1],q1,?_,by rw [e1,if_neg hA0];exact q2,?_,by rw [q3];exact HRN.out,?_⟩
       ·unfold putD
        rw [if_neg HND.out,if_neg HE0.out,if_neg HNL.out,if_pos hAx0,HP8.out,HL.out]
       ·unfold putLs
        rw [if_neg HND.out,if_neg HE0.out,if_neg HNL.out,if_pos hAx0,q3,HL8.out,if_neg hA0]
       ·unfold putDn
        rw [if_neg HND.out,if_neg HE0.out,if_neg HNL.out,if_pos hAx0,HAx.out]
        exact q4
      have Hfin:=Lib.hid hfin
      clear hfin e1 hAx0
      by_cases hA3:A=3
      ·have tA3:(A==3)=true:=by simpa using hA3
       have q:=Lib.hid (Hfin.out _ _ hs08 rfl rfl (by rw [decide_eq_false (fun h=>h.1 hA3)];exact HDN.out))
       have HA0:=Lib.hid hA0
       have HA3:=Lib.hid hA3
       clear hA0 hA3
       go_wp2_with fail
       exact q.out
      ·have tA3:(A==3)=false:=by simpa using hA3
       by_cases hA1:A=100
       ·have tA1:(A==100)=true:=by simpa using hA1
        have q:=Lib.hid (Hfin.out _ _ hs08 rfl rfl (by rw [decide_eq_false (fun h=>h.2 hA1)];exact HDN.out))
        have HA0:=Lib.hid hA0
        have HA1:=Lib.hid hA1
        clear hA0 hA1 hA3
        go_wp2_with fail
        exact q.out
       ·have tA1:(A==100)=false:=by simpa using hA1
        have tAn:(A !=0)=true:=by simpa using hA0
        have q:=Lib.hid (Hfin.out _ _ (hs08.trans (setDown h8)) rfl rfl (by rw [decide_eq_true ⟨hA3,hA1⟩]))
        have cv5:W8.cell? ⟨V.v,5,none⟩=some (.bool V.down):=bv8.cell rfl
        have fv8:=bv8.free
        clear hA0 hA3 hA1
        go_wp2_with fail
        exact q.out
     ·subst hA0
      have tA0:((0:Int)==0)=true:=rfl
      have hAx0:¬putA r.p V x≠0:=by rw [HAx.out];simp
      have hls8:R8.ls=V.R.ls++ [L]:=by rw [HL8.out,if_pos rfl]
      have cs:=lsync_any W8 B r8 R8 h8.dl (by have:=hs08.turn.size;omega)
      obtain ⟨E,hE⟩:∃E,E=(syncP r8.p R8.nm).2:=⟨_,rfl⟩
      rw [←hE] at cs
      have hES:(putS r.p V x).2=E:=by unfold putS;rw [hE,HP8.out,HRN.out,HL.out]
      have HE:=Lib.hid hE
      have HES:=Lib.hid hES
      have HAX0:=Lib.hid hAx0
      have HLS8:=Lib.hid hls8
      clear hE hES hAx0 hls8
      go_wp2_with fail
      refine cs.mono ?_
      clear cs
      rintro e W9 ⟨rfl,r9,R9,hp9,hl9,-,hst9⟩
      have hv9:VStep B W8 r8 {V with bl:=bl,R:=R8} W9 r9 {V with bl:=bl,R:=R9}:=LStep.vault (V:={V with bl:=bl,R:=R8}) (V':={V with bl:=bl,R:=R9}) hst9 h8 rfl (by rw [hl9];exact hcnt8)
      have hs09:=hs08.trans hv9
      have h9:=hs09.at'
      have bX9:Blk W9 X (deedCells x hx).toArray 40:=(hst9.turn.block X bX8.lt fun hf=>by
       rcases hst8.foot' X hf with q|q
       ·exact HNX.out q
       ·have:=bX7.lt;omega).trans bX8
      have hRn9:R9.nm=V.R.nm:=hst9.nm.trans HRN.out
      have hp9':r9.p=(putS r.p V x).1:=by rw [hp9];unfold putS;rw [HP8.out,HRN.out,HL.out]
      have bv9:=h9.vault.blk
      by_cases hE0:E=0
      rotate_left 1
      ·have tE:(E !=0)=true:=by simpa using hE0
       have e1:putE r.p V x=E:=by unfold putE;rw [if_neg HND.out,if_neg HE0.out,if_neg HNL.out,if_neg HAX0.out,HES.out]
       have q:S (.returned (.int .i64 E)) (W9.setCell ⟨V.v,5,none⟩ (.bool true)):=by
        rw [HS.out]
        refine ⟨r9,_,by rw [e1],hs09.trans (setDown h9),?_,by rw [e1,if_neg hE0];rfl,?_,hRn9,?_⟩
        ·unfold putD
         rw [if_neg HND.out,if_neg HE0.out,if_neg HNL.out,if_neg HAX0.out,hp9']
        ·unfold putLs
         rw [if_neg HND.out,if_neg HE0.out,if_neg HNL.out,if_neg HAX0.out,HL.out.symm]
         exact hl9.trans HLS8.out
        ·unfold putDn
         rw [if_neg HND.out,if_neg HE0.out,if_neg HNL.out,if_neg HAX0.out,HES.out,decide_eq_true hE0]
       have Q:=Lib.hid q
       have cv5:W9.cell? ⟨V.v,5,none⟩=some (.bool V.down):=bv9.cell rfl
       have fv9:=bv9.free
       clear q e1 hE0 hp9' hRn9 hp9 hl9
       go_wp2_with fail
       exact Q.out
      ·subst hE0
       have tE:((0:Int) !=0)=false:=rfl
       have e1:putE r.p V x=0:=by unfold putE;rw [if_neg HND.out,if_neg HE0.out,if_neg HNL.out,if_neg HAX0.out,HES.out]
       have hBW9:Below B w W9:=hs09.below h hB
       have ck:=vkeep_any W9 B r9.d {V with bl:=bl,R:=R9} h9.vault (Nat.le_trans hB hs09.turn.size) x hx (fun W' ht=>hd W' (hs09.turn.trans (ht.mono fun y hy=> .inr (.inr hy)) hs09.foot')) HM.out HF.out (by
        show V.ds.length<R9.ls.length
        rw [hl9,HLS8.out,List.length_append,List.length_singleton]
        have:=h.vault.cnt
        omega)
       rw [deedVal_cells] at ck
       have HP9:=Lib.hid hp9'
       have HRN9:=Lib.hid hRn9
       have HL9:=Lib.hid hl9
       have HE1:=Lib.hid e1
       clear hp9' hRn9 hp9 hl9 e1
       go_wp2_with (refine wpList_load_blk rfl 40 deedT (.tmp 3) rfl rfl bX9 rfl ?_)
       refine ck.mono ?_
       clear ck
       intro e W10 hkp
       obtain ⟨V10,rfl,hv10,hl10,-,-⟩:=hkp
       have hs10:=hs09.trans (hv10.step h9)
       go_wp2_with fail
       rw [HS.out]
       refine ⟨r9,V10,by first|(rw [HE1.out];done)|(rw [HE1.out];rfl),hs10,?_,by rw [HE1.out,if_pos rfl];exact hl10,?_,by rw [hv10.R];exact HRN9.out,?_⟩
       ·unfold putD
        rw [if_neg HND.out,if_neg HE0.out,if_neg HNL.out,if_neg HAX0.out,HP9.out]
       ·unfold putLs
        rw [if_neg HND.out,if_neg HE0.out,if_neg HNL.out,if_neg HAX0.out,HL.out.symm,hv10.R]
        exact HL9.out.trans HLS8.out
       ·unfold putDn
        rw [if_neg HND.out,if_neg HE0.out,if_neg HNL.out,if_neg HAX0.out,HES.out]
        exact hv10.down.trans HDN.out
end
end Go.Proofs.YtioigihakjlopaaGreat

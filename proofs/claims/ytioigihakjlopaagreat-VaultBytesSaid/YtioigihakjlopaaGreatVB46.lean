/- Texts put together and cut to what is used: VaultBytes. -/
import Derived.Test.YtioigihakjlopaaGreatVB33
import Derived.Test.YtioigihakjlopaaGreatVB45
namespace Go.Proofs.YtioigihakjlopaaGreat
set_option linter.unusedVariables false
set_option linter.unusedSimpArgs false
section
open Go.RowKit
set_option maxRecDepth 20000
def mayB (p:DeedP):List UInt8:=if mayD p=true then bytesD p else []
def mayE (p:DeedP):Int:=if mayD p=true then 0 else 2
theorem VBytesP.both {w w':World} {p:DeedP} {e:Ending} (q:VBytesP w p e w'):∃a c,e= .returned (.tuple #[.slice a (mayB p).length c,.int .i64 (mayE p)])∧BytesAt w' a (mayB p)∧Below w.heap.size w w':=by
 unfold VBytesP at q
 unfold mayB mayE
 by_cases hm:mayD p=true
 ·rw [if_pos hm] at q⊢
  rw [if_pos hm]
  obtain ⟨a,c,e1,h1,h2⟩:=q
  exact ⟨a,c,e1,h1.row,h2⟩
 ·rw [if_neg hm] at q⊢
  rw [if_neg hm]
  exact ⟨none,0,q.1,RowAt.nil _ _,q.2⟩
set_option maxHeartbeats 8000000 in
theorem vaultBytes_any (p q:DeedP) (h g:DeedH) (a:Option Addr) (n c:Nat) (l:List UInt8) (w:World) (hd:DeedAt w p h) (hq:DeedAt w q g) (hl:BytesAt w a l) (hn:l.length=n) (hc:n≤c):
  Calls Tryz.prog 6 #[deedVal p h,deedVal q g,.slice a n c] w fun e w'=>e= .returned (.bool true)∧Below w.heap.size w w':=by
 rw [deedVal_cells,deedVal_cells]
 go_enter Tryz.func6,Tryz.ntmps6
 go_upto_region 1 with (fail)
 obtain ⟨X,hX⟩:∃X,X=w.heap.size:=⟨_,rfl⟩
 rw [←hX]
 refine wp_forget (fun W=>Blk W X (deedCells p h).toArray 40∧Blk W (X+1) (deedCells q g).toArray 40∧Below w.heap.size w W) ⟨by subst hX;exact Blk.new2 w _ _ _,by subst hX;exact Blk.new2' w _ _ _,by subst hX;(try unfold Kept);repeat (first|assumption|exact Below.refl _ _|exact below_undrew (Below.refl _ _)|exact Below.mono (by assumption) (by first|(simp;done)|(simp;omega)|omega)|refine below_setRow ?_ (by first|(simp;done)|(simp;omega)|omega) _|refine Below.setCell ?_ (by first|(simp;done)|(simp;omega)|omega) _|refine Below.alloc ?_ (by first|(simp;done)|(simp;omega)|omega) _|refine below_drewN ?_ _|refine Below.drew ?_|refine below_undrew ?_|refine below_step ?_ (by assumption))⟩ ?_
 rintro w1 ⟨bX,bZ,hb1⟩
 clear hX
 have cg:=vgreat_any p h w1 (hd.old hb1)
 rw [deedVal_cells] at cg
 go_wp2_with (first|refine wpList_load_blkw (by rfl) 40 deedT (.tmp 3) rfl rfl bX rfl ?_)
 refine cg.mono ?_
 clear cg
 rintro e w2 ⟨rfl,hb2⟩
 have hbw2:Below w.heap.size w w2:=below_step hb1 hb2
 have bX2:=bX.old hb2
 have bZ2:=bZ.old hb2
 clear hb1 hb2 bX bZ
 cases hg:greatD p with
 |true=>
  go_wp2_with fail
  refine (vwakes_any _).mono ?_
  rintro e wz ⟨rfl,hbz⟩
  have hbwz:Below w.heap.size w wz:=below_step hbw2 hbz
  go_wp2_with fail
  go_ret
  exact ⟨rfl,hbwz⟩
 |false=>
  have HG:=Lib.hid hg
  clear hg
  have cg:=vgreat_any q g w2 (hq.old hbw2)
  rw [deedVal_cells] at cg
  go_wp2_with (first|refine wpList_load_blkw (by rfl) 40 deedT (.tmp 4) rfl rfl bZ2 rfl ?_)
  refine cg.mono ?_
  clear cg
  rintro e w3 ⟨rfl,hb3⟩
  have hbw3:Below w.heap.size w w3:=below_step hbw2 hb3
  have bX3:=bX2.old hb3
  have bZ3:=bZ2.old hb3
  clear hbw2 hb3 bX2 bZ2
  cases hgq:greatD q with
  |true=>
   go_wp2_with fail
   refine (vwakes_any _).mono ?_
   rintro e wz ⟨rfl,hbz⟩
   have hbwz:Below w.heap.size w wz:=below_step hbw3 hbz
   go_wp2_with fail
   go_ret
   exact ⟨rfl,hbwz⟩
  |false=>
   by_cases hm:n≤20000
   rotate_left 1
   ·have t1:decide ((20000:Int)<(n:Int))=true:=by simp;omega
    go_wp2_with fail
    refine (vwakes_any _).mono ?_
    rintro e wz ⟨rfl,hbz⟩
    have hbwz:Below w.heap.size w wz:=below_step hbw3 hbz
    go_wp2_with fail
    go_ret
    exact ⟨rfl,hbwz⟩
   have t1:decide ((20000:Int)<(n:Int))=false:=by simp;omega
   replace hm:n≤1048576:=by omega
   clear hgq
   have hal:=act_len HG.out
   have hal2:(actionI p.act).length+5000<100000000:=by
    have h1:=(great_no HG.out).1
    have h2:=act_is p.act
    omega
   have cb:=vbytes_any p h w3 (hd.old hbw3) hal
   rw [deedVal_cells] at cb
   go_wp2_with (first|refine wpList_load_blkw (by rfl) 40 deedT (.tmp 3) rfl rfl bX3 rfl ?_)
   refine cb.mono ?_
   clear cb
   intro e w4 qq
   obtain ⟨a4,c4,rfl,hr4,hb4⟩:=qq.both
   have hbw4:Below w.heap.size w w4:=below_step hbw3 hb4
   have bX4:=bX3.old hb4
   have bZ4:=bZ3.old hb4
   clear hbw3 hb4 bX3 bZ3 qq
   have cb:=rbytes_any p h w4 (hd.old hbw4) hal2
   rw [deedVal_cells] at cb
   go_wp2_with (first|refine wpList_load_blkw (by rfl) 40 deedT (.tmp 3) rfl rfl bX4 rfl ?_)
   refine cb.mono ?_
   clear cb
   intro e w5 qq
   obtain ⟨a5,c5,rfl,hr5,hb5⟩:=qq.both
   have hbw5:Below w.heap.size w w5:=below_step hbw4 hb5
   have bX5:=bX4.old hb5
   have bZ5:=bZ4.old hb5
   replace hr4:=hr4.below hb5
   clear hbw4 hb5 bX4 bZ4 qq hal hal2
   obtain ⟨mm,hmm⟩:∃mm,mayD p=mm:=⟨_,rfl⟩
   obtain ⟨mb,hmb⟩:∃mb,mb=mayB p:=⟨_,rfl⟩
   obtain ⟨me,hme⟩:∃me,me=mayE p:=⟨_,rfl⟩
   rw [←hmb] at hr4 hr5⊢
   rw [←hme]
   clear hmb hme
   obtain ⟨nb,hnb⟩:∃nb,nb=mb.length:=⟨_,rfl⟩
   rw [←hnb]
   have HNB:=Lib.hid hnb
   clear hnb
   have cb:=vread_any w5 a n c l (hl.below hbw5) hn hm hc
   go_wp2_with fail
   refine cb.mono ?_
   clear cb
   rintro e w6 ⟨g6,rfl,hd6,hb6⟩
   have hbw6:Below w.heap.size w w6:=below_step hbw5 hb6
   have bX6:=bX5.old hb6
   have bZ6:=bZ5.old hb6
   replace hr4:=hr4.below hb6
   replace hr5:=hr5.below hb6
   clear hbw5 hb6 bX5 bZ5
   rw [deedVal_cells]
   obtain ⟨rd,hrd⟩:∃rd,rd=(readD l).1:=⟨_,rfl⟩
   obtain ⟨re,hre⟩:∃re,re=(readD l).2:=⟨_,rfl⟩
   rw [←hrd] at hd6⊢
   rw [←hre]
   have HRD:=Lib.hid hrd
   have HRE:=Lib.hid hre
   clear hrd hre
   go_upto_region 6 with (first|refine wpList_store_blk rfl 40 deedT (.tmp 11) _ rfl rfl rfl (Blk.new _ _ _) rfl rfl rfl ?_)
   obtain ⟨Y,hY⟩:∃Y,Y=w6.heap.size:=⟨_,rfl⟩
   rw [←hY]
   refine wp_forget (fun W=>Blk W Y (deedCells rd g6).toArray 40∧Below w6.heap.size w6 W) ⟨by rw [hY];exact (Blk.new _ _ _).setRow _,by rw [hY];exact below_setRow ((Below.refl _ _).alloc (Nat.le_refl _) _) (Nat.le_refl _) _⟩ ?_
   clear hY
   rintro w7 ⟨bY,hb7⟩
   have hbw7:Below w.heap.size w w7:=below_step hbw6 hb7
   have bX7:=bX6.old hb7
   have bZ7:=bZ6.old hb7
   replace hr4:=hr4.below hb7
   replace hr5:=hr5.below hb7
   have hd7:=hd6.at.old hb7
   clear hbw6 hb7 bX6 bZ6 hd6
   have cb:=fread_any w7 a n c l (hl.below hbw7) hn hm hc
   go_wp2_with fail
   refine cb.mono ?_
   clear cb
   rintro e w8 ⟨g8,rfl,hd8,hb8⟩
   have hbw8:Below w.heap.size w w8:=below_step hbw7 hb8
   have bX8:=bX7.old hb8
   have bZ8:=bZ7.old hb8
   have bY8:=bY.old hb8
   replace hr4:=hr4.below hb8
   replace hr5:=hr5.below hb8
   replace hd7:=hd7.old hb8
   clear hbw7 hb8 bX7 bZ7 bY
   rw [deedVal_cells]
   rw [←HRD.out] at hd8⊢
   rw [←HRE.out]
   obtain ⟨Y0,hY0⟩:∃Y0,Y0=Y:=⟨_,rfl⟩
   rw [←hY0] at bY8⊢
   clear hY0
   go_upto_region 7 with (first|refine wpList_store_blk rfl 40 deedT (.tmp 13) _ rfl rfl rfl (Blk.new _ _ _) rfl rfl rfl ?_)
   obtain ⟨Y,hY⟩:∃Y,Y=w8.heap.size:=⟨_,rfl⟩
   rw [←hY]
   refine wp_forget (fun W=>Blk W Y (deedCells rd g8).toArray 40∧Below w8.heap.size w8 W) ⟨by rw [hY];exact (Blk.new _ _ _).setRow _,by rw [hY];exact below_setRow ((Below.refl _ _).alloc (Nat.le_refl _) _) (Nat.le_refl _) _⟩ ?_
   clear hY
   rintro w9 ⟨bV,hb9⟩
   have hbw9:Below w.heap.size w w9:=below_step hbw8 hb9
   have bX9:=(bX8.old hb9).drew
   have bZ9:=(bZ8.old hb9).drew
   have bY9:=(bY8.old hb9).drew
   have bV9:=bV.drew
   replace hr4:=hr4.below hb9
   replace hr5:=hr5.below hb9
   replace hd7:=hd7.old hb9
   replace hd8:=hd8.at.old hb9
   clear hbw8 hb9 bX8 bZ8 bY8 bV
   have hdr:Below w9.heap.size w9 w9.drew:=(Below.refl _ _).drew
   replace hr4:=hr4.below hdr
   replace hr5:=hr5.below hdr
   replace hd7:=hd7.old hdr
   replace hd8:=hd8.old hdr
   replace hbw9:=below_step hbw9 hdr
   clear hdr
   refine wp_region_g (0::2::1::3::4::5::6::7::8::9::10::11::12::13::14::15::16::17::18::19::20::21::22::23::24::25::26::27::28::29::31::32::30::33::34::35::36::37::38::39::40::41::42::43::44::[]) (by kernel_rfl) (by kernel_rfl) (fun c a d v w h=>by cases d<;>exact h) ?_
   refine gex_quiet (v:= .agg (deedCells p h).toArray) rfl rfl (by rfl) (fun W hW=>exec_load_as 40 deedT (.tmp 3) rfl rfl rfl (((bX9.old hW)).cells) rfl) ?_
   simp only [Act.put,List.setIfInBounds_toArray,List.set]
   refine gex_quiet (v:= .agg (deedCells p h).toArray) rfl rfl (by rfl) (fun W hW=>exec_load_as 40 deedT (.tmp 3) rfl rfl rfl (((bX9.old hW)).cells) rfl) ?_
   simp only [Act.put,List.setIfInBounds_toArray,List.set]
   have cb:=vmay_any p h _ (hd.old hbw9)
   try rw [deedVal_cells] at cb
   try rw [deedVal_cells] at cb
   refine gex_loud rfl rfl (by rfl) (fun K hK=> ?_);go_wp2_with fail
   refine cb.mono ?_
   clear cb
   rintro e w10 ⟨rfl,hb⟩
   rw [hmm]
   go_wp2_with fail
   refine hK _ _ hb ?_
   clear hK K
   replace bX9:=bX9.old hb
   replace bZ9:=bZ9.old hb
   replace bY9:=bY9.old hb
   replace bV9:=bV9.old hb
   replace hd7:=hd7.old hb
   replace hd8:=hd8.old hb
   try replace hr4:=hr4.below hb
   try replace hr5:=hr5.below hb
   replace hbw9:=below_step hbw9 hb
   clear hb
   have cb:=rmay_any p h _ (hd.old hbw9)
   try rw [deedVal_cells] at cb
   try rw [deedVal_cells] at cb
   refine gex_loud rfl rfl (by rfl) (fun K hK=> ?_);go_wp2_with fail
   refine cb.mono ?_
   clear cb
   rintro e w11 ⟨rfl,hb⟩
   rw [hmm]
   go_wp2_with fail
   refine hK _ _ hb ?_
   clear hK K
   replace bX9:=bX9.old hb
   replace bZ9:=bZ9.old hb
   replace bY9:=bY9.old hb
   replace bV9:=bV9.old hb
   replace hd7:=hd7.old hb
   replace hd8:=hd8.old hb
   try replace hr4:=hr4.below hb
   try replace hr5:=hr5.below hb
   replace hbw9:=below_step hbw9 hb
   clear hb
   have s1:∀W,Old w11 W→(convert 22 9 (.slice a4 nb c4)).run Tryz.prog W= .ok (.string (strOf mb)) W:=fun W hW=>
    run_string_of W Tryz.underlying22 Tryz.underlying5 Tryz.underlying9 (hr4.below hW) HNB.out.symm
   have s2:∀W,Old w11 W→(convert 22 9 (.slice a5 nb c5)).run Tryz.prog W= .ok (.string (strOf mb)) W:=fun W hW=>
    run_string_of W Tryz.underlying22 Tryz.underlying5 Tryz.underlying9 (hr5.below hW) HNB.out.symm
   repeat (first|(refine gex_skip rfl (by rfl) ?_;simp only [Act.put,List.setIfInBounds_toArray,List.set])|(refine gex_quiet (v:= ?_) rfl rfl (by rfl) ?_ ?_;rotate_left;(intro W hW;go_simp);(try with_reducible rfl);simp only [Act.put,List.setIfInBounds_toArray,List.set]))
   clear s1 s2 hr4 hr5
   refine gex_quiet (v:= .agg (deedCells rd g6).toArray) rfl rfl (by rfl) (fun W hW=>exec_load_as 40 deedT (.tmp 11) rfl rfl rfl (((bY9.old hW)).cells) rfl) ?_
   simp only [Act.put,List.setIfInBounds_toArray,List.set]
   refine gex_quiet (v:= .agg (deedCells rd g8).toArray) rfl rfl (by rfl) (fun W hW=>exec_load_as 40 deedT (.tmp 13) rfl rfl rfl (((bV9.old hW)).cells) rfl) ?_
   simp only [Act.put,List.setIfInBounds_toArray,List.set]
   have e1:sameB rd rd=true:=by rw [sameB_eq];exact decide_eq_true rfl
   have e2:sameB p p=true:=by rw [sameB_eq];exact decide_eq_true rfl
   obtain ⟨ss,e3⟩:∃ss,sameB p q=ss:=⟨_,rfl⟩
   have cb:=rsame_any rd rd g6 g8 _ hd7 hd8
   try rw [deedVal_cells] at cb
   try rw [deedVal_cells] at cb
   refine gex_loud rfl rfl (by rfl) (fun K hK=> ?_);go_wp2_with fail
   refine cb.mono ?_
   clear cb
   rintro e w12 ⟨rfl,hb⟩
   rw [e1]
   go_wp2_with fail
   refine hK _ _ hb ?_
   clear hK K
   replace bX9:=bX9.old hb
   replace bZ9:=bZ9.old hb
   replace bY9:=bY9.old hb
   replace bV9:=bV9.old hb
   replace hd7:=hd7.old hb
   replace hd8:=hd8.old hb
   try replace hr4:=hr4.below hb
   try replace hr5:=hr5.below hb
   replace hbw9:=below_step hbw9 hb
   clear hb
   repeat (first|(refine gex_skip rfl (by rfl) ?_;simp only [Act.put,List.setIfInBounds_toArray,List.set])|(refine gex_quiet (v:= ?_) rfl rfl (by rfl) ?_ ?_;rotate_left;(intro W hW;go_simp);(try with_reducible rfl);simp only [Act.put,List.setIfInBounds_toArray,List.set]))
   refine gex_quiet (v:= .agg (deedCells p h).toArray) rfl rfl (by rfl) (fun W hW=>exec_load_as 40 deedT (.tmp 3) rfl rfl rfl (((bX9.old hW)).cells) rfl) ?_
   simp only [Act.put,List.setIfInBounds_toArray,List.set]
   refine gex_quiet (v:= .agg (deedCells q g).toArray) rfl rfl (by rfl) (fun W hW=>exec_load_as 40 deedT (.tmp 4) rfl rfl rfl (((bZ9.old hW)).cells) rfl) ?_
   simp only [Act.put,List.setIfInBounds_toArray,List.set]
   refine gex_quiet (v:= .agg (deedCells p h).toArray) rfl rfl (by rfl) (fun W hW=>exec_load_as 40 deedT (.tmp 3) rfl rfl rfl (((bX9.old hW)).cells) rfl) ?_
   simp only [Act.put,List.setIfInBounds_toArray,List.set]
   refine gex_quiet (v:= .agg (deedCells q g).toArray) rfl rfl (by rfl) (fun W hW=>exec_load_as 40 deedT (.tmp 4) rfl rfl rfl (((bZ9.old hW)).cells) rfl) ?_
   simp only [Act.put,List.setIfInBounds_toArray,List.set]
   have cb:=vsame_any p q h g _ (hd.old hbw9) (hq.old hbw9)
   try rw [deedVal_cells] at cb
   try rw [deedVal_cells] at cb
   refine gex_loud rfl rfl (by rfl) (fun K hK=> ?_);go_wp2_with fail
   refine cb.mono ?_
   clear cb
   rintro e w13 ⟨rfl,hb⟩
   rw [e3]
   go_wp2_with fail
   refine hK _ _ hb ?_
   clear hK K
   replace bX9:=bX9.old hb
   replace bZ9:=bZ9.old hb
   replace bY9:=bY9.old hb
   replace bV9:=bV9.old hb
   replace hd7:=hd7.old hb
   replace hd8:=hd8.old hb
   try replace hr4:=hr4.below hb
   try replace hr5:=hr5.below hb
   replace hbw9:=below_step hbw9 hb
   clear hb
   have cb:=rsame_any p q h g _ (hd.old hbw9) (hq.old hbw9)
   try rw [deedVal_cells] at cb
   try rw [deedVal_cells] at cb
   refine gex_loud rfl rfl (by rfl) (fun K hK=> ?_);go_wp2_with fail
   refine cb.mono ?_
   clear cb
   rintro e w14 ⟨rfl,hb⟩
   rw [e3]
   go_wp2_with fail
   refine hK _ _ hb ?_
   clear hK K
   replace bX9:=bX9.old hb
   replace bZ9:=bZ9.old hb
   replace bY9:=bY9.old hb
   replace bV9:=bV9.old hb
   replace hd7:=hd7.old hb
   replace hd8:=hd8.old hb
   try replace hr4:=hr4.below hb
   try replace hr5:=hr5.below hb
   replace hbw9:=below_step hbw9 hb
   clear hb
   repeat (first|(refine gex_skip rfl (by rfl) ?_;simp only [Act.put,List.setIfInBounds_toArray,List.set])|(refine gex_quiet (v:= ?_) rfl rfl (by rfl) ?_ ?_;rotate_left;(intro W hW;go_simp);(try with_reducible rfl);simp only [Act.put,List.setIfInBounds_toArray,List.set]))
   refine gex_quiet (v:= .agg (deedCells p h).toArray) rfl rfl (by rfl) (fun W hW=>exec_load_as 40 deedT (.tmp 3) rfl rfl rfl (((bX9.old hW)).cells) rfl) ?_
   simp only [Act.put,List.setIfInBounds_toArray,List.set]
   refine gex_quiet (v:= .agg (deedCells p h).toArray) rfl rfl (by rfl) (fun W hW=>exec_load_as 40 deedT (.tmp 3) rfl rfl rfl (((bX9.old hW)).cells) rfl) ?_
   simp only [Act.put,List.setIfInBounds_toArray,List.set]
   have cb:=vsame_any p p h h _ (hd.old hbw9) (hd.old hbw9)
   try rw [deedVal_cells] at cb
   try rw [deedVal_cells] at cb
   refine gex_loud rfl rfl (by rfl) (fun K hK=> ?_);go_wp2_with fail
   refine cb.mono ?_
   clear cb
   rintro e w15 ⟨rfl,hb⟩
   rw [e2]
   go_wp2_with fail
   refine hK _ _ hb ?_
   clear hK K
   replace bX9:=bX9.old hb
   replace bZ9:=bZ9.old hb
   replace bY9:=bY9.old hb
   replace bV9:=bV9.old hb
   replace hd7:=hd7.old hb
   replace hd8:=hd8.old hb
   try replace hr4:=hr4.below hb
   try replace hr5:=hr5.below hb
   replace hbw9:=below_step hbw9 hb
   clear hb
   repeat (first|(refine gex_skip rfl (by rfl) ?_;simp only [Act.put,List.setIfInBounds_toArray,List.set])|(refine gex_quiet (v:= ?_) rfl rfl (by rfl) ?_ ?_;rotate_left;(intro W hW;go_simp);(try with_reducible rfl);simp only [Act.put,List.setIfInBounds_toArray,List.set]))
   refine gex_loud rfl rfl (by rfl) (fun K hK=> ?_);go_wp2_with fail
   refine (vwakes_any _).mono ?_
   rintro e wz ⟨rfl,hbz⟩
   have hbwz:Below w.heap.size w wz:=below_step hbw9 hbz
   go_wp2_with fail
   refine hK _ _ hbz ?_
   clear hK K
   repeat (first|(refine gex_skip rfl (by rfl) ?_;simp only [Act.put,List.setIfInBounds_toArray,List.set])|(refine gex_quiet (v:= ?_) rfl rfl (by rfl) ?_ ?_;rotate_left;(intro W hW;go_simp);(try with_reducible rfl);simp only [Act.put,List.setIfInBounds_toArray,List.set]))
   refine gex_nil ?_
   go_wp2_with fail
   go_ret
   exact ⟨rfl,hbwz⟩
end
end Go.Proofs.YtioigihakjlopaaGreat

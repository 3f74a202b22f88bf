/- Texts put together and cut to what is used: VRB, ImD4, ImD5, ImD6. -/
import Derived.Test.YtioigihakjlopaaGreatVB40
import Derived.Test.YtioigihakjlopaaGreatVB42
namespace Go.Proofs.YtioigihakjlopaaGreat
set_option linter.unusedVariables false
set_option linter.unusedSimpArgs false
section
open Go.RowKit
set_option maxRecDepth 20000
def NumR27 (w:World) (B:Nat) (bs:List UInt8) (v:Int) (f:Nat) (v0 v5:Value) (wr:World):Prop:=
 ∃(k:Nat) (i:Int) (a:Option Addr) (c:Nat) (cs:List UInt8),k+f=8∧i+1=f∧v5= .int .i64 i∧v0= .slice a cs.length c∧Hid (cs=bs++(be8 v).take k)∧Own wr B 5 1 a cs.length c (cs.map bv)∧Rx B 5 w wr
set_option maxHeartbeats 2000000 in
theorem rnumber_any (w:World) (B:Nat) (a:Option Addr) (n c:Nat) (bs:List UInt8) (v:Int) (hown:Own w B 5 1 a n c (bs.map bv)) (hn:bs.length=n) (hB:B≤w.heap.size) (hz:n<100000000):
  Calls Tryz.prog 77 #[.slice a n c,.int .i64 v] w (OutB B w (bs++be8 v)):=by
 have hst:NumR27 w B bs v 8 (.slice a n c) (.int .i64 7) w:=⟨0,7,a,c,bs,rfl,rfl,rfl,by rw [hn],Lib.hid (by simp),by rw [hn];exact hown,Rx.refl _⟩
 go_enter Tryz.func77,Tryz.ntmps77
 go_wp2_with fail
 go_loopg [0,5] 8 (NumR27 w B bs v)
 case atStart=>exact hst
 case round=>
  clear hst hown
  obtain ⟨k,i,a2,c2,ds,hk,hi,rfl,rfl,hds,ho,hr⟩:=hrel
  have hln:ds.length≤n+8:=by
   rw [hds.out,List.length_append,List.length_take,be8_length,hn];omega
  have hB2:=Nat.le_trans hB hr.1.size
  by_cases hlt:k<8
  ·have u0:decide (0≤i)=true:=by simp;omega
   have v1:IntKind.i64.wrap (8*i)=8*i:=IntWalk.i64_in _ (by omega)
   have v2:IntKind.u64.wrap (8*i)=8*i:=by simp [IntKind.wrap,IntKind.bits,IntKind.signed];omega
   have v3:IntKind.i64.wrap (i-1)=i-1:=IntWalk.i64_in _ (by omega)
   have v4:(8*i).toNat=56-8*k:=by omega
   have vb:IntKind.u64.wrap v/2^(56-8*k)%256=U8 ⟨((BitVec.ofInt 64 v)>>>(56-8*k)).setWidth 8⟩:=be8_byte v _
   have HVB:=Lib.hid vb
   clear vb
   have HT:=Lib.hid (be8_take v k hlt)
   have hA:=ho.alloc (.cells #[.int .u8 (IntKind.u64.wrap v/2^(56-8*k)%256)] 5)
   go_wp2_with (at_builtin;refine wpList_append_row rfl _ _ 22 rfl bytesT' rfl hA rfl (RowAt.new' _ _ _ _ rfl) (by rfl) (by exact all_one _ rfl) (by unfold maxLen;omega) (by omega) (by simp;omega) ?_)
   intro a3 c3 w3 ho3 hg3
   have hr3:Rx B 5 w w3:=Rx.trans _ _ _ hr (Rx.trans _ _ _ (Rx.alloc wr hB2 _) (Rx.grown hA (Nat.le_refl _) (by simp;omega) hg3))
   obtain ⟨es,hes⟩:∃es:List UInt8,es=ds++ [⟨((BitVec.ofInt 64 v)>>>(56-8*k)).setWidth 8⟩]:=⟨_,rfl⟩
   have hle:es.length=ds.length+1:=by rw [hes];simp
   have HES:=Lib.hid (show es=bs++(be8 v).take (k+1) by rw [hes,hds.out,HT.out,List.append_assoc])
   have hoe:Own w3 B 5 1 a3 (ds.length+1) c3 (es.map bv):=by
    rw [hes,List.map_append];rw [HVB.out] at ho3;simpa [bv] using ho3
   have HLE:=Lib.hid hle
   clear hes ho3 hle hA hg3 ho hr
   go_wp2_with fail
   go_roundg (gk-1)
   case measure=>omega
   case rel=>
    refine ⟨k+1,i-1,a3,c3,es,by omega,by omega,rfl,by rw [HLE.out],HES,by rw [HLE.out];exact hoe,hr3⟩
  ·have u0:decide (0≤i)=false:=by simp;omega
   have HF:=Lib.hid (show ds=bs++be8 v by rw [hds.out,List.take_of_length_le (by rw [be8_length];omega)])
   go_wp2_with fail
   go_ret
   rw [←HF.out]
   exact ⟨a2,c2,rfl,ho,hr⟩
set_option maxHeartbeats 2000000 in
theorem rlist_any (w:World) (B:Nat) (a:Option Addr) (n c:Nat) (bs:List UInt8) (s:Sl) (l:List Int) (hown:Own w B 5 1 a n c (bs.map bv)) (hn:bs.length=n) (hB:B≤w.heap.size) (hl:Ints w s l) (hi:InB B s.a s.n) (hz:n+8*s.n+100<100000000):
  Calls Tryz.prog 80 #[.slice a n c,.slice s.a s.n s.c] w (OutB B w (bs++encL l)):=by
 have HL:=Lib.hid hl.2.1
 have HN:=Lib.hid hn
 have cn:=rnumber_any w B a n c bs s.n hown hn hB (by omega)
 obtain ⟨sa,sn,sc⟩:=s
 dsimp only at*
 clear hn
 go_enter Tryz.func80,Tryz.ntmps80
 go_wp2_with fail
 refine cn.mono ?_
 clear cn
 rintro e w1 ⟨a1,c1,rfl,hown1,hr1⟩
 obtain ⟨cs,hcs⟩:∃cs,cs=bs++be8 (sn:Int):=⟨_,rfl⟩
 rw [←hcs] at hown1⊢
 have HCS:=Lib.hid hcs
 clear hcs
 have hst:NumsB w B bs l sn (.slice a1 cs.length c1) (.int .i64 0) w1:=⟨0,a1,c1,cs,by rw [HL.out];omega,rfl,rfl,Lib.hid (by rw [HCS.out,HL.out];simp),hown1,hr1⟩
 go_wp2_with fail
 go_loopg [0,5] sn (NumsB w B bs l)
 case atStart=>exact hst
 case round=>
  clear hst hown1
  obtain ⟨k,a2,c2,ds,hk,rfl,rfl,hds,ho,hr⟩:=hrel
  rw [HL.out] at hk
  have hln:ds.length≤n+8+8*sn:=by
   rw [hds.out,List.length_append,List.length_append,be8_length,HN.out,enc_len be8_length,List.length_take]
   omega
  by_cases hlt:k<sn
  ·have t0:decide ((k:Int)<(sn:Int))=true:=by simp;omega
   have hkl:k<l.length:=by rw [HL.out];exact hlt
   obtain ⟨b,o,rfl,hc⟩:=IntRow.cell (show IntRow w sa sn sc l from hl) k hkl
   have hbB:b<B:=hi (by omega) _ rfl
   have hcr:wr.cell? ⟨b,o+k,none⟩=some (.int .i64 l[k]):=by rw [hr.1.cell (p:=⟨b,o+k,none⟩) hbB];exact hc
   have HT:=Lib.hid (List.take_succ_eq_append_getElem hkl)
   generalize l[k]=x at*
   have cb:=rnumber_any wr B a2 ds.length c2 ds x ho rfl (Nat.le_trans hB hr.1.size) (by omega)
   clear hc
   go_wp2_with fail
   refine cb.mono ?_
   clear cb
   rintro e w3 ⟨a3,c3,rfl,ho3,hr3⟩
   have hr03:=Rx.trans _ _ _ hr hr3
   obtain ⟨es,hes⟩:∃es,es=ds++be8 x:=⟨_,rfl⟩
   rw [←hes] at ho3⊢
   have HES:=Lib.hid (show es=bs++(be8 l.length++(l.take (k+1)).flatMap be8) by rw [hes,hds.out,HT.out,List.flatMap_append];simp)
   clear hes
   go_wp2_with fail
   go_roundg (gk-1)
   case measure=>omega
   case rel=>exact ⟨k+1,a3,c3,es,by rw [HL.out];omega,by go_num,rfl,HES,ho3,hr03⟩
  ·have t0:decide ((k:Int)<(sn:Int))=false:=by simp;omega
   have HF:=Lib.hid (show ds=bs++encL l by rw [hds.out,List.take_of_length_le (by rw [HL.out];omega)];rfl)
   go_wp2_with fail
   go_ret
   rw [←HF.out]
   exact ⟨a2,c2,rfl,ho,hr⟩
set_option maxHeartbeats 2000000 in
theorem rtext_any (w:World) (B:Nat) (a:Option Addr) (n c:Nat) (bs:List UInt8) (s:Name) (hown:Own w B 5 1 a n c (bs.map bv)) (hn:bs.length=n) (hB:B≤w.heap.size) (hz:n+s.size+100<100000000):
  Calls Tryz.prog 79 #[.slice a n c,.string s] w (OutB B w (bs++textB s)):=by
 have cn:=rnumber_any w B a n c bs s.size hown hn hB (by omega)
 have HN:=Lib.hid hn
 clear hn
 go_enter Tryz.func79,Tryz.ntmps79
 go_wp2_with fail
 refine cn.mono ?_
 clear cn
 rintro e w1 ⟨a1,c1,rfl,hown1,hr1⟩
 obtain ⟨cs,hcs⟩:∃cs,cs=bs++be8 (s.size:Int):=⟨_,rfl⟩
 rw [←hcs] at hown1⊢
 have hlc:cs.length=n+8:=by rw [hcs,List.length_append,be8_length,HN.out]
 have hB1:=Nat.le_trans hB hr1.1.size
 have HL:=Lib.hid hlc
 rw [hlc] at hown1
 rw [hlc]
 clear hlc
 go_wp2_with (at_builtin;refine wpList_append_str rfl _ _ 22 9 rfl bytesT' (by kernel_rfl) Tryz.underlying9 rfl hown1 rfl (by omega) hB1 ?_)
 intro a2 c2 w2 ho2 hg2
 have hr2:=Rx.trans _ _ _ hr1 (Rx.grown hown1 (Nat.le_refl _) hB1 hg2)
 have hle:(bs++textB s).length=n+8+s.size:=by rw [List.length_append,textB,List.length_append,be8_length,strL_length,HN.out];omega
 have HE:=Lib.hid hle
 have HO:Own w2 B 5 1 a2 (n+8+s.size) c2 ((bs++textB s).map bv):=by simpa [textB,List.map_append] using ho2
 clear hle ho2 hcs
 go_wp2_with fail
 go_ret
 refine ⟨a2,c2,by rw [HE.out];rfl,?_,hr2⟩
 rw [HE.out]
 exact HO
set_option maxHeartbeats 8000000 in
theorem rbytes_any (p:DeedP) (h:DeedH) (w:World) (hd:DeedAt w p h) (hz:(actionI p.act).length+5000<100000000):
  Calls Tryz.prog 29 #[deedVal p h] w (VBytesP w p):=by
 obtain ⟨S,hS⟩:∃S,S=VBytesP w p:=⟨_,rfl⟩
 rw [←hS]
 have HS:=Lib.hid hS
 clear hS
 rw [deedVal_cells]
 go_enter Tryz.func29,Tryz.ntmps29
 go_upto_region 1 with (fail)
 obtain ⟨X,hX⟩:∃X,X=w.heap.size:=⟨_,rfl⟩
 rw [←hX]
 refine wp_forget (fun W=>Blk W X (deedCells p h).toArray 40∧Below w.heap.size w W) ⟨by subst hX;exact Blk.new w _ _,by subst hX;(try unfold Kept);repeat (first|assumption|exact Below.refl _ _|exact below_undrew (Below.refl _ _)|exact Below.mono (by assumption) (by first|(simp;done)|(simp;omega)|omega)|refine below_setRow ?_ (by first|(simp;done)|(simp;omega)|omega) _|refine Below.setCell ?_ (by first|(simp;done)|(simp;omega)|omega) _|refine Below.alloc ?_ (by first|(simp;done)|(simp;omega)|omega) _|refine below_drewN ?_ _|refine Below.drew ?_|refine below_undrew ?_|refine below_step ?_ (by assumption))⟩ ?_
 rintro W1 ⟨hb1,hbw1⟩
 clear hX
 go_wp2_with (refine wpList_load_blk rfl 40 deedT (.tmp 1) rfl rfl hb1 rfl ?_)
 have cb:=rmay_any p h W1 (hd.old hbw1)
 rw [deedVal_cells] at cb
 refine cb.mono ?_
 clear cb
 rintro e w1 ⟨rfl,hb⟩
 have hbw:=below_step hbw1 hb
 have hX1:=hb1.old hb
 have hd1:=hd.old hbw
 clear hb1 hbw1 hb hd
 cases hm:mayD p with
 |false=>
  go_wp2_with fail
  rw [HS.out]
  unfold VBytesP
  rw [hm]
  exact ⟨rfl,hbw⟩
 |true=>
  obtain ⟨kb,hkb⟩:∃kb:UInt8,kb=if p.kind=2 then 2 else 1:=⟨_,rfl⟩
  have hkc:IntKind.u8.wrap p.kind=U8 kb:=by
   rw [hkb]
   rcases mayD_kind hm with e|e<;>rw [e]<;>rfl
  have hkc2:p.kind%256=U8 kb:=by rw [←hkc];rfl
  have HKB:=Lib.hid hkb
  have HM:=Lib.hid hm
  clear hkb hm
  have A:=hX1.rule
  unfold deedCells at A
  go_upto_region 4 with (fail)
  have hO:Own (w1.alloc (.cells #[.int .u8 (U8 kb)] 5)) w1.heap.size 5 1 (some ⟨w1.heap.size,0,none⟩) 1 1 ([kb].map bv):=Own.lit _ _ _ rfl rfl (Nat.le_refl _) (by unfold maxLen;omega)
  have hin:=DeedIn.of hd1
  obtain ⟨g0,hg0⟩:∃g,g=w1.heap.size:=⟨_,rfl⟩
  rw [←hg0] at hO⊢
  refine wp_forget (fun W=>Own W g0 5 1 (some ⟨g0,0,none⟩) 1 1 ([kb].map bv)∧Rx g0 5 w1 W∧Blk W X (deedCells p h).toArray 40∧g0≤W.heap.size) ⟨hO,Rx.old (by (try unfold Kept);repeat (first|assumption|exact Below.refl _ _|exact below_undrew (Below.refl _ _)|exact Below.mono (by assumption) (by first|(simp;done)|(simp;omega)|omega)|refine below_setRow ?_ (by first|(simp;done)|(simp;omega)|omega) _|refine Below.setCell ?_ (by first|(simp;done)|(simp;omega)|omega) _|refine Below.alloc ?_ (by first|(simp;done)|(simp;omega)|omega) _|refine below_drewN ?_ _|refine Below.drew ?_|refine below_undrew ?_|refine below_step ?_ (by assumption))) (Nat.le_of_eq hg0),hX1.alloc _,by simp;omega⟩ ?_
  rintro V0 ⟨o0,R0,bX0,hB0⟩
  clear hO A hX1
  have A:=bX0.rule
  unfold deedCells at A
  have hG0:w.heap.size≤g0:=by rw [hg0];exact hbw.size
  rw [←hg0] at hin
  have HG:=Lib.hid hg0
  clear hg0 hd1 hkc hkc2
  obtain ⟨l0,hl0⟩:∃l:List UInt8,l=[kb]:=⟨_,rfl⟩
  have z0:l0.length≤1:=by rw [hl0];exact Nat.le_refl _
  have hn0:l0.length=1:=by rw [hl0];rfl
  rw [←hl0] at o0
  have H0:=Lib.hid hl0
  clear hl0
  have cb:=rnumber_any V0 g0 (some ⟨g0,0,none⟩) 1 1 l0 p.game o0 hn0 hB0 (by omega)
  go_wp2_with fail
  refine cb.mono ?_
  clear cb
  intro e1 V1 g
  obtain ⟨l1,a1,c1,rfl,o1,r1,H1,z1⟩:=g.get (be8_length _)
  have R1:=Rx.trans _ _ _ R0 r1
  have bX1:=r1.blk bX0 (by decide)
  have hB1:=Nat.le_trans hB0 r1.1.size
  clear A o0 r1 bX0 g
  have A:=bX1.rule
  unfold deedCells at A
  clear hn0
  rcases mayD_kind HM.out with hk|hk
  rotate_left
  ·have t2:(p.kind==2)=true:=by simpa using hk
   have HE:=Lib.hid (show bytesD p=l1++actionI p.act by rw [H1.out,H0.out,HKB.out,if_pos hk];unfold bytesD;rw [if_pos hk])
   clear hk
   have cb:=dactbytes_any V1 p.act h.act (ActionIn.of (hin.low R1.1).at'.act) hz
   unfold actionVal at cb
   go_wp2_with fail
   refine cb.mono ?_
   clear cb
   rintro e V2 ⟨a2,c2,rfl,o2,r2⟩
   obtain ⟨n2,hn2⟩:∃n2,(actionI p.act).length=n2:=⟨_,rfl⟩
   rw [hn2] at o2 hz⊢
   have hB2:=Nat.le_trans hB1 r2.1.size
   have ho:=o1.old r2.1
   have HN2:=Lib.hid hn2
   clear hn2
   go_wp2_with (at_builtin;refine wpList_append_row rfl _ _ 22 rfl bytesT' rfl ho rfl o2.row (by rw [List.length_map,HN2.out,Nat.mul_one]) (bv_one _) (by unfold maxLen;omega) (by omega) hB2 ?_)
   intro a6 c6 w6 ho6 hg6
   have R6:=Rx.trans _ _ _ R1 (Rx.trans _ _ _ (Rx.old r2.1 hB1) (Rx.grown ho (Nat.le_refl _) hB2 hg6))
   have HL:l1.length+n2=(bytesD p).length:=by rw [HE.out,List.length_append,HN2.out]
   have HLh:=Lib.hid HL
   have ho7:Own w6 g0 5 1 a6 (l1.length+n2) c6 ((bytesD p).map bv):=by rw [HE.out,List.map_append];exact ho6
   clear HL ho6 hg6
   go_wp2_with fail
   rw [HS.out]
   unfold VBytesP
   rw [if_pos HM.out,←HLh.out]
   exact ⟨a6,c6,rfl,ho7.lower hG0,below_step hbw (R6.1.mono (Nat.le_of_eq HG.out.symm))⟩
  ·have t2:(p.kind==2)=false:=by rw [hk];rfl
   have hsz:=begin_sizes HM.out hk
   have HK:=Lib.hid hk
   obtain ⟨⟨s0,s1,s2⟩,d0,d1,d2⟩:=hsz
   have hl0:=(hin.low R1.1).at'.d0.2.1
   have hl1:=(hin.low R1.1).at'.d1.2.1
   have hl2:=(hin.low R1.1).at'.dr.2.1
   clear hk
   have cb:=rnumber_any V1 g0 a1 l1.length c1 l1 p.table o1 rfl hB1 (by omega)
   go_wp2_with fail
   refine cb.mono ?_
   clear cb
   intro e2 V2 g
   obtain ⟨l2,a2,c2,rfl,o2,r2,H2,z2⟩:=g.get (be8_length _)
   have R2:=Rx.trans _ _ _ R1 r2
   have bX2:=r2.blk bX1 (by decide)
   have hB2:=Nat.le_trans hB1 r2.1.size
   clear A o1 r2 bX1 g
   have A:=bX2.rule
   unfold deedCells at A
   have cb:=rtext_any V2 g0 a2 l2.length c2 l2 p.fmt o2 rfl hB2 (by omega)
   go_wp2_with fail
   refine cb.mono ?_
   clear cb
   intro e3 V3 g
   obtain ⟨l3,a3,c3,rfl,o3,r3,H3,z3⟩:=g.get (by rw [textB,List.length_append,be8_length,strL_length])
   have R3:=Rx.trans _ _ _ R2 r3
   have bX3:=r3.blk bX2 (by decide)
   have hB3:=Nat.le_trans hB2 r3.1.size
   clear A o2 r3 bX2 g
   have A:=bX3.rule
   unfold deedCells at A
   have cb:=rtext_any V3 g0 a3 l3.length c3 l3 p.n0 o3 rfl hB3 (by omega)
   go_wp2_with fail
   refine cb.mono ?_
   clear cb
   intro e4 V4 g
   obtain ⟨l4,a4,c4,rfl,o4,r4,H4,z4⟩:=g.get (by rw [textB,List.length_append,be8_length,strL_length])
   have R4:=Rx.trans _ _ _ R3 r4
   have bX4:=r4.blk bX3 (by decide)
   have hB4:=Nat.le_trans hB3 r4.1.size
   clear A o3 r4 bX3 g
   have A:=bX4.rule
   unfold deedCells at A
   have cb:=rtext_any V4 g0 a4 l4.length c4 l4 p.n1 o4 rfl hB4 (by omega)
   go_wp2_with fail
   refine cb.mono ?_
   clear cb
   intro e5 V5 g
   obtain ⟨l5,a5,c5,rfl,o5,r5,H5,z5⟩:=g.get (by rw [textB,List.length_append,be8_length,strL_length])
   have R5:=Rx.trans _ _ _ R4 r5
   have bX5:=r5.blk bX4 (by decide)
   have hB5:=Nat.le_trans hB4 r5.1.size
   clear A o4 r5 bX4 g
   have A:=bX5.rule
   unfold deedCells at A
   have cb:=rlist_any V5 g0 a5 l5.length c5 l5 h.d0 p.d0 o5 rfl hB5 (hin.low R5.1).at'.d0 hin.d0 (by omega)
   go_wp2_with fail
   refine cb.mono ?_
   clear cb
   intro e6 V6 g
   obtain ⟨l6,a6,c6,rfl,o6,r6,H6,z6⟩:=g.get (encL_len _)
   have R6:=Rx.trans _ _ _ R5 r6
   have bX6:=r6.blk bX5 (by decide)
   have hB6:=Nat.le_trans hB5 r6.1.size
   clear A o5 r6 bX5 g
   have A:=bX6.rule
   unfold deedCells at A
   have cb:=rlist_any V6 g0 a6 l6.length c6 l6 h.d1 p.d1 o6 rfl hB6 (hin.low R6.1).at'.d1 hin.d1 (by omega)
   go_wp2_with fail
   refine cb.mono ?_
   clear cb
   intro e7 V7 g
   obtain ⟨l7,a7,c7,rfl,o7,r7,H7,z7⟩:=g.get (encL_len _)
   have R7:=Rx.trans _ _ _ R6 r7
   have bX7:=r7.blk bX6 (by decide)
   have hB7:=Nat.le_trans hB6 r7.1.size
   clear A o6 r7 bX6 g
   have A:=bX7.rule
   unfold deedCells at A
   have cb:=rlist_any V7 g0 a7 l7.length c7 l7 h.dr p.dr o7 rfl hB7 (hin.low R7.1).at'.dr hin.dr (by omega)
   go_wp2_with fail
   refine cb.mono ?_
   clear cb
   intro e8 V8 g
   obtain ⟨l8,a8,c8,rfl,o8,r8,H8,z8⟩:=g.get (encL_len _)
   have R8:=Rx.trans _ _ _ R7 r8
   have bX8:=r8.blk bX7 (by decide)
   have hB8:=Nat.le_trans hB7 r8.1.size
   clear A o7 r8 bX7 g
   have A:=bX8.rule
   unfold deedCells at A
   have HE:=Lib.hid (show bytesD p=l8 by
    rw [H8.out,H7.out,H6.out,H5.out,H4.out,H3.out,H2.out,H1.out,H0.out,HKB.out,if_neg (by rw [HK.out];decide)];unfold bytesD;rw [if_neg (by rw [HK.out];decide)])
   go_wp2_with fail
   rw [HS.out]
   unfold VBytesP
   rw [if_pos HM.out,HE.out]
   exact ⟨a8,c8,rfl,o8.lower hG0,below_step hbw (R8.1.mono (Nat.le_of_eq HG.out.symm))⟩
def endB (q:DC):Int:=if q.bad<0∧q.at_<q.bs.length then (q.at_:Int) else q.bad
set_option maxHeartbeats 4000000 in
theorem end_d (w:World) (B:Nat) (q:DC) (hq:DAt w B q) (hB:B≤w.heap.size):
  Calls Tryz.prog 129 #[.pointer (some ⟨q.c,0,none⟩)] w fun e w'=>e= .returned (.bool (decide (endB q<0)))∧QStep B w q w' q.at_ (endB q):=by
 have hc:=hq.blk.rule
 unfold qcells at hc
 have hlo:=hq.lo
 have hle:=hq.le
 have hmx:=hq.max
 by_cases hb:q.bad<0
 ·have d0:decide (q.bad<0)=true:=by simpa using hb
  by_cases hl:q.at_<q.bs.length
  ·have d1:decide ((q.at_:Int)<(q.bs.length:Int))=true:=by simp;omega
   have d1':decide (q.at_<q.bs.length)=true:=by simp;omega
   have he:endB q=(q.at_:Int):=by unfold endB;rw [if_pos ⟨hb,hl⟩]
   rw [he]
   have hz:decide ((q.at_:Int)<0)=false:=by simp
   rw [hz]
   go_enter Tryz.func129,Tryz.ntmps129
   go_wp2_with fail
   go_quiet (fail)
   go_upto_region 2 with (fail)
   refine wp_forget (fun W=>QStep B w q W q.at_ q.bad) ⟨hq.old (by (try unfold Kept);repeat (first|assumption|exact Below.refl _ _|exact below_undrew (Below.refl _ _)|exact Below.mono (by assumption) (by first|(simp;done)|(simp;omega)|omega)|refine below_setRow ?_ (by first|(simp;done)|(simp;omega)|omega) _|refine Below.setCell ?_ (by first|(simp;done)|(simp;omega)|omega) _|refine Below.alloc ?_ (by first|(simp;done)|(simp;omega)|omega) _|refine below_drewN ?_ _|refine Below.drew ?_|refine below_undrew ?_|refine below_step ?_ (by assumption))) hB,Turn.of_below (by (try unfold Kept);repeat (first|assumption|exact Below.refl _ _|exact below_undrew (Below.refl _ _)|exact Below.mono (by assumption) (by first|(simp;done)|(simp;omega)|omega)|refine below_setRow ?_ (by first|(simp;done)|(simp;omega)|omega) _|refine Below.setCell ?_ (by first|(simp;done)|(simp;omega)|omega) _|refine Below.alloc ?_ (by first|(simp;done)|(simp;omega)|omega) _|refine below_drewN ?_ _|refine Below.drew ?_|refine below_undrew ?_|refine below_step ?_ (by assumption)))⟩ ?_
   intro w1 hs1
   clear hc
   have hq1:DAt w1 B q:=hs1.at'
   have hc:=hq1.blk.rule
   unfold qcells at hc
   have cw:=wrong_d w1 B q q.at_ hq1 (by omega)
   rw [if_pos hb] at cw
   go_wp2_with fail
   refine cw.mono ?_
   clear cw
   rintro e w2 ⟨rfl,hs⟩
   clear hc
   have c2:=hs.at'.blk.rule
   unfold qcells DC.to at c2
   dsimp only at c2
   go_wp2_with fail
   go_ret
   exact ⟨rfl,⟨hs.at',hs1.turn.trans hs.turn fun _ hx=> .inl hx⟩⟩
  ·have d1:decide ((q.at_:Int)<(q.bs.length:Int))=false:=by simp;omega
   have d1':decide (q.at_<q.bs.length)=false:=by simp;omega
   have he:endB q=q.bad:=by unfold endB;rw [if_neg fun h=>hl h.2]
   rw [he]
   go_enter Tryz.func129,Tryz.ntmps129
   go_wp2_with fail
   go_quiet (fail)
   go_wp2_with fail
   go_ret
   exact ⟨by simp [hb],⟨hq.old (by (try unfold Kept);repeat (first|assumption|exact Below.refl _ _|exact below_undrew (Below.refl _ _)|exact Below.mono (by assumption) (by first|(simp;done)|(simp;omega)|omega)|refine below_setRow ?_ (by first|(simp;done)|(simp;omega)|omega) _|refine Below.setCell ?_ (by first|(simp;done)|(simp;omega)|omega) _|refine Below.alloc ?_ (by first|(simp;done)|(simp;omega)|omega) _|refine below_drewN ?_ _|refine Below.drew ?_|refine below_undrew ?_|refine below_step ?_ (by assumption))) hB,Turn.of_below (by (try unfold Kept);repeat (first|assumption|exact Below.refl _ _|exact below_undrew (Below.refl _ _)|exact Below.mono (by assumption) (by first|(simp;done)|(simp;omega)|omega)|refine below_setRow ?_ (by first|(simp;done)|(simp;omega)|omega) _|refine Below.setCell ?_ (by first|(simp;done)|(simp;omega)|omega) _|refine Below.alloc ?_ (by first|(simp;done)|(simp;omega)|omega) _|refine below_drewN ?_ _|refine Below.drew ?_|refine below_undrew ?_|refine below_step ?_ (by assumption)))⟩⟩
 ·have d0:decide (q.bad<0)=false:=by simpa using hb
  have he:endB q=q.bad:=by unfold endB;rw [if_neg fun h=>hb h.1]
  rw [he]
  go_enter Tryz.func129,Tryz.ntmps129
  go_wp2_with fail
  go_quiet (fail)
  go_wp2_with fail
  go_ret
  exact ⟨by simp [hb],⟨hq.old (by (try unfold Kept);repeat (first|assumption|exact Below.refl _ _|exact below_undrew (Below.refl _ _)|exact Below.mono (by assumption) (by first|(simp;done)|(simp;omega)|omega)|refine below_setRow ?_ (by first|(simp;done)|(simp;omega)|omega) _|refine Below.setCell ?_ (by first|(simp;done)|(simp;omega)|omega) _|refine Below.alloc ?_ (by first|(simp;done)|(simp;omega)|omega) _|refine below_drewN ?_ _|refine Below.drew ?_|refine below_undrew ?_|refine below_step ?_ (by assumption))) hB,Turn.of_below (by (try unfold Kept);repeat (first|assumption|exact Below.refl _ _|exact below_undrew (Below.refl _ _)|exact Below.mono (by assumption) (by first|(simp;done)|(simp;omega)|omega)|refine below_setRow ?_ (by first|(simp;done)|(simp;omega)|omega) _|refine Below.setCell ?_ (by first|(simp;done)|(simp;omega)|omega) _|refine Below.alloc ?_ (by first|(simp;done)|(simp;omega)|omega) _|refine below_drewN ?_ _|refine Below.drew ?_|refine below_undrew ?_|refine below_step ?_ (by assumption)))⟩⟩
theorem OwnInts.setApart {w:World} {B Y:Nat} {s:Sl} {l:List Int} {cs:Array Value} {t:TypeId} (h:OwnInts w B s l) (hy:Blk w Y cs t) (hne:t≠3) (i:Nat) (v:Value):OwnInts (w.setCell ⟨Y,i,none⟩ v) B s l:=⟨h.1.setCell_apart hy hne i v,(h.1.setCell_apart hy hne i v).row,h.2.2⟩
theorem After.ret {α:Type} {k:Nat} {b:Int} {x:α} (h: -1≤b):After k b (fun a=> .ok (x,a)) x k b:=⟨fun _=>rfl,fun h'=>⟨rfl,by omega,rfl⟩⟩
theorem QStep.set {w wr:World} {B k X i:Nat} {b:Int} {q:DC} (h:QStep B w q wr k b) (hB:B≤w.heap.size) (hX:w.heap.size≤X) (hne:X≠q.c) (v:Value):QStep B w q (wr.setCell ⟨X,i,none⟩ v) k b:=
 ⟨h.at'.keep (heap_setCell_other _ _ _ _ (Ne.symm hne)) ((Below.refl _ _).setCell (Nat.le_trans hB hX) _),h.turn.setCell (x:=⟨X,i,none⟩) (.inr hX) v⟩
theorem QStep.blk {wr w':World} {B k k' X:Nat} {b b':Int} {q:DC} {cs:Array Value} {t:TypeId} (h:QStep B wr (q.to k b) w' k' b') (hx:Blk wr X cs t) (hne:X≠q.c):Blk w' X cs t:=(h.turn.block X hx.lt hne).trans hx
def endK (n k:Nat) (b:Int):Int:=if b<0∧k<n then (k:Int) else b
theorem endB_to (q:DC) (k:Nat) (b:Int):endB (q.to k b)=endK q.bs.length k b:=rfl
theorem After.whole {α:Type} {bs:List UInt8} {rd:List UInt8→Nat→Rd α} {x:α} {k:Nat} {b:Int} (h:After 0 (-1) (rd bs) x k b):
  (endK bs.length k b<0∧rdWhole rd bs= .ok x)∨(¬endK bs.length k b<0∧∃p:Nat,endK bs.length k b=(p:Int)∧rdWhole rd bs= .error p):=by
 have e:=h.2 (by decide)
 unfold rdWhole endK
 cases hr:rd bs 0 with
 |error p=>
  rw [hr] at e
  have e:b=(p:Int):=e
  subst e
  rw [if_neg (by omega)]
  exact .inr ⟨by omega,p,rfl,rfl⟩
 |ok y=>
  rw [hr] at e
  obtain ⟨y1,y2⟩:=y
  obtain ⟨rfl,rfl,rfl⟩:y1=x∧b= -1∧k=y2:=e
  dsimp only
  by_cases hk:k<bs.length
  ·rw [if_pos ⟨by decide,hk⟩,if_pos hk]
   exact .inr ⟨by omega,k,rfl,rfl⟩
  ·rw [if_neg (fun h=>hk h.2),if_neg hk]
   exact .inl ⟨by decide,rfl⟩
end
end Go.Proofs.YtioigihakjlopaaGreat

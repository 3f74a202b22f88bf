/- Texts put together and cut to what is used: MacKey. -/
import Derived.Test.YtioigihakjlopaaGreatVK22
namespace Go.Proofs.YtioigihakjlopaaGreat
set_option linter.unusedVariables false
set_option linter.unusedSimpArgs false
section
open Go.RowKit
def Eg1 (w:World) (H n:Nat) (f:Nat) (i:Value) (wr:World):Prop:=
 ∃t:Nat,f+t=8∧i= .int .i64 (t:Int)∧Blk wr H (vA 8 fun j=>if j<t then bv (be64b n j) else .int .u8 0) 260∧Below H w wr
theorem zero8b:(Tryz.prog.info? 260).bind (·.zero)=some (.agg (vA 8 fun _=> .int .u8 0)):=by kernel_rfl
theorem be64_step (n t j:Nat) (x:Int) (h:x=U8 (be64b n t)):(if j=t then Value.int .u8 x else if j<t then bv (be64b n j) else .int .u8 0)=if j<t+1 then bv (be64b n j) else .int .u8 0:=by
 subst h
 by_cases e:j=t
 ·subst e;rw [if_pos rfl,if_pos (by omega)];rfl
 ·rw [if_neg e]
  by_cases e2:j<t
  ·rw [if_pos e2,if_pos (by omega)]
  ·rw [if_neg e2,if_neg (by omega)]
set_option maxHeartbeats 1000000 in
set_option maxRecDepth 40000 in
theorem eight_any (n:Nat) (hn:n<18446744073709551616) (w:World):Calls Tryz.prog 166 #[.int .u64 (n:Int)] w fun e w'=>∃g,e= .returned (.slice (some ⟨g,0,none⟩) 8 8)∧w.heap.size≤g∧BytesAt w' (some ⟨g,0,none⟩) (be64 n)∧Below w.heap.size w w':=by
 have hnI:(n:Int)≤18446744073709551615:=by omega
 have hn0:(0:Int)≤(n:Int):=by omega
 obtain ⟨H,hH⟩:∃H,H=w.heap.size:=⟨_,rfl⟩
 rw [←hH]
 have hB0:=Blk.new w (vA 8 fun _=> .int .u8 0) 260
 have hz1:=zero_run zero8b
 go_enter Tryz.func166,Tryz.ntmps166
 go_upto_region 2 with fail
 clear hz1
 rw [←hH] at hB0⊢
 refine wp_forget (fun W0=>Eg1 w H n 8 (.int .i64 0) W0) ⟨0,by omega,rfl,hB0.ofV fun j _=>by rw [if_neg (by omega)],by rw [hH];(try unfold Kept);repeat (first|assumption|exact Below.refl _ _|exact below_undrew (Below.refl _ _)|exact Below.mono (by assumption) (by first|(simp;done)|(simp;omega)|omega)|refine below_setRow ?_ (by first|(simp;done)|(simp;omega)|omega) _|refine Below.setCell ?_ (by first|(simp;done)|(simp;omega)|omega) _|refine Below.alloc ?_ (by first|(simp;done)|(simp;omega)|omega) _|refine below_drewN ?_ _|refine Below.drew ?_|refine below_undrew ?_|refine below_step ?_ (by assumption))⟩ ?_
 have HH:=Lib.hid hH
 clear hB0 hH
 intro w1 hst
 go_wp2_with fail
 go_loopg [4,5] 8 (fun g _ i wr=>Eg1 w H n g i wr)
 case atStart=>exact hst
 case round=>
  clear hst
  obtain ⟨t,hf,rfl,hB,hb⟩:=hrel
  have HF:=Lib.hid hf
  clear hf
  by_cases ht:t<8
  ·have HE:=Lib.hid fun p=>be64_div n t p
   have f0:=hB.free
   have h8:t=0∨t=1∨t=2∨t=3∨t=4∨t=5∨t=6∨t=7:=by omega
   rcases h8 with rfl|rfl|rfl|rfl|rfl|rfl|rfl|rfl
   all_goals
    have c0:=hB.atV (by omega) rfl
    go_wp2_with fail
    clear c0 f0
    go_roundg (gk-1)
    case rel=>
     have hf:=HF.out
     refine ⟨_,by omega,by go_num,(hB.setV (by omega) _).ofV fun j _=>be64_step n _ j _ ?_,hb.setCell (by show H≤H;omega) _⟩
     first
      |exact HE.out _ rfl
      |(have E:=HE.out 72057594037927936 rfl;rw [←E];omega)
      |(have E:=HE.out 1 rfl;rw [←E];omega)
    case measure=>have hf:=HF.out;omega
  ·obtain rfl:t=8:=by have:=HF.out;omega
   have hsl:=all8b H
   go_wp2_with fail
   go_ret
   refine ⟨H,rfl,Nat.le_refl _,?_,hb⟩
   have hTT:=hB.ofV (g:=fun j=>bv (be64b n j)) fun j hj=>if_pos hj
   refine RowAt.mk fun j hj=> ?_
   rw [List.length_map,be64_length] at hj
   rw [Nat.zero_add,hTT.atV hj rfl]
   simp [be64]
theorem RowAt.keepB {w w':World} {g o:Nat} {vs:List Value} (h:RowAt w (some ⟨g,o,none⟩) vs) (hk:w'.heap[g]? =w.heap[g]?):RowAt w' (some ⟨g,o,none⟩) vs:=by
 intro i hi
 obtain ⟨b,o',e,hc⟩:=h i hi
 cases e
 refine ⟨g,o,rfl,?_⟩
 unfold World.cell? at hc⊢
 simp only at hc⊢
 rw [hk];exact hc
def keyb (name:List UInt8) (nl n:Nat):List UInt8:=be64 nl++name++be64 n
structure MkI (w:World) (H M:Nat) (k fed:List UInt8) (hi ho:Nat) (ha:Option Addr) (hn hc:Nat) (a2:Option Addr) (n2 c2:Nat) (P g1 g2 g3 cN nn Z Y:Nat) (name:List UInt8) (n:Nat) (wr:World):Prop where
 res:Blk wr H (vA 32 fun _=> .int .u8 0) 170
 mac:MacAt wr (H+1) M k fed hi ho ha hn hc a2 n2 c2
 row:∀r,rowB ha hc=some r→r<Z∨Y≤r
 hi:hi<Z
 pcs:Blk wr P #[.slice (some ⟨g1,0,none⟩) 8 8,.slice (some ⟨g2,0,none⟩) nn cN,.slice (some ⟨g3,0,none⟩) 8 8] 22
 b1:BytesAt wr (some ⟨g1,0,none⟩) (be64 nn)
 b2:BytesAt wr (some ⟨g2,0,none⟩) name
 b3:BytesAt wr (some ⟨g3,0,none⟩) (be64 n)
 o1:Z≤g1∧g1<Y
 o2:Z≤g2∧g2<Y
 o3:Z≤g3∧g3<Y
 oP:Z≤P∧P<Y
 le:Y≤wr.heap.size
 below:Below H w wr
section
variable {w:World} {H M:Nat} {k fed:List UInt8} {hi ho:Nat} {ha:Option Addr} {hn hc:Nat} {a2:Option Addr} {n2 c2:Nat} {P g1 g2 g3 cN nn Z Y:Nat} {name:List UInt8} {n:Nat} {wr wq:World}
theorem MkI.write (h:MkI w H M k fed hi ho ha hn hc a2 n2 c2 P g1 g2 g3 cN nn Z Y name n wr) {p:List UInt8} {a':Option Addr} {n' c':Nat} (hm:MacAt wq (H+1) M k (fed++p) hi ho a' n' c' a2 n2 c2) (hfr:HsFr wr wq hi (rowB ha hc))
  (hr:rowB a' c'=none∨rowB a' c'=rowB ha hc∨∃b,rowB a' c'=some b∧wr.heap.size≤b):MkI w H M k (fed++p) hi ho a' n' c' a2 n2 c2 P g1 g2 g3 cN nn Z Y name n wq:=by
 have hle:=h.le
 have hhi:=h.hi
 have keep:∀g,Z≤g→g<Y→wq.heap[g]? =wr.heap[g]? :=fun g h1 h2=>hfr.block g (by omega) (by omega) fun e=>by
  have:=h.row g e;omega
 refine ⟨hfr.blk h.res (by have:=h.mac.leI;omega) fun e=>by have:=(h.mac.inn.row.lt e).1;omega,hm,fun r hr'=> ?_,hhi,?_,h.b1.keepB (keep _ h.o1.1 h.o1.2),h.b2.keepB (keep _ h.o2.1 h.o2.2),h.b3.keepB (keep _ h.o3.1 h.o3.2),h.o1,h.o2,h.o3,h.oP,Nat.le_trans hle hfr.size,h.below.trans (hfr.below (by have:=h.mac.leI;omega) (fun b hb=>by have:=(h.mac.inn.row.lt hb).1;omega) (by have:=h.res.lt;omega))⟩
 ·rcases hr with h1|h1|⟨b,h1,h2⟩
  ·rw [h1] at hr';cases hr'
  ·rw [h1] at hr';exact h.row r hr'
  ·rw [h1] at hr';cases hr';omega
 ·have e:=h.pcs
  unfold Blk at e⊢
  rw [keep _ h.oP.1 h.oP.2];exact e
end
def piece (nn:Nat) (name:List UInt8) (n t:Nat):List UInt8:=if t=0 then be64 nn else if t=1 then name else be64 n
def fedN (nn:Nat) (name:List UInt8) (n t:Nat):List UInt8:=((List.range t).map (piece nn name n)).flatten
theorem fedN_succ (nn:Nat) (name:List UInt8) (n t:Nat):fedN nn name n (t+1)=fedN nn name n t++piece nn name n t:=by simp [fedN,List.range_succ]
theorem fedN_all (nn:Nat) (name:List UInt8) (n:Nat):fedN nn name n 3=keyb name nn n:=by
 simp [fedN,keyb,piece,List.range_succ]
def Mk3 (w:World) (H M:Nat) (k:List UInt8) (hi ho:Nat) (a2:Option Addr) (n2 c2:Nat) (P g1 g2 g3 cN nn Z Y:Nat) (name:List UInt8) (n:Nat) (f:Nat) (i:Value) (wr:World):Prop:=
 ∃(t:Nat) (ha:Option Addr) (hn hc:Nat),f+t=3∧i= .int .i64 (t:Int)∧MkI w H M k (fedN nn name n t) hi ho ha hn hc a2 n2 c2 P g1 g2 g3 cN nn Z Y name n wr
def McOut (w:World) (k b:List UInt8) (e:Ending) (w':World):Prop:=e= .returned (.agg (mcA k b))∧Below w.heap.size w w'
set_option maxHeartbeats 2000000 in
set_option maxRecDepth 100000 in
theorem mkey_any (k:List UInt8) (ka:Option Addr) (kn kc:Nat) (s:ByteArray) (n:Nat) (w:World) (hk:BytesAt w ka k) (hkl:k.length=kn) (hkm:kn<140737488352000) (hsm:s.size<400000000000) (hn:n<18446744073709551616):
  Calls Tryz.prog 139 #[.slice ka kn kc,.string s,.int .u64 (n:Int)] w (McOut w k (keyb (strL s) s.size n)):=by
 have HK:=Lib.hid hkl
 obtain ⟨H,hH⟩:∃H,H=w.heap.size:=⟨_,rfl⟩
 have HH:=Lib.hid hH
 have hR0:=Blk.new w (vA 32 fun _=> .int .u8 0) 170
 rw [←hH] at hR0
 clear hkl hH
 go_enter Tryz.func139,Tryz.ntmps139
 go_wp2_with fail
 refine (mnew_any k ka kn kc _ (hk.alloc _) HK.out (by omega)).mono ?_
 rintro e w1 ⟨M,hi,ho,ha,hn1,hc,a2,n2,c2,rfl,hM,hb1⟩
 simp only [World.size_alloc] at hM hb1
 rw [←HH.out] at hM hb1
 go_wp2_with fail
 have hsI:(s.size:Int)≤400000000000:=by omega
 refine (eight_any s.size (by omega) _).mono ?_
 rintro e w2 ⟨g1,rfl,hg1,hB1,hb2⟩
 go_wp2_with (refine wpList_bytes_of rfl 9 22 (.tmp 19) rfl Tryz.underlying9 Tryz.underlying22 Tryz.underlying5 rfl ?_;intro c3 w3 hB3 hb3 hg2')
 refine (eight_any n hn _).mono ?_
 rintro e w4 ⟨g3,rfl,hg3,hB4,hb4⟩
 obtain ⟨g2,hg2⟩:∃g,g=w2.heap.size:=⟨_,rfl⟩
 rw [←hg2] at hB3 hg2'⊢
 have hs2:=hb2.size
 have hs3:=hb3.size
 have hs4:=hb4.size
 have hr2:=World.size_alloc w (.cells (vA 32 fun _=> .int .u8 0) 170)
 have hs1:=hb1.size
 simp only [World.size_alloc] at hs1
 have hH1:H=w.heap.size:=HH.out
 have hz:=hM.inn.hash.lt
 have hP:=Blk.new w4 #[.slice (some ⟨g1,0,none⟩) 8 8,.slice (some ⟨g2,0,none⟩) s.size c3,.slice (some ⟨g3,0,none⟩) 8 8] 22
 obtain ⟨P,hPe⟩:∃P,P=w4.heap.size:=⟨_,rfl⟩
 have hlt1:g1<w2.heap.size:=RowAt.lt hB1 (by rw [List.length_map,be64_length];omega)
 have hlt3:g3<w4.heap.size:=RowAt.lt hB4 (by rw [List.length_map,be64_length];omega)
 have hb14:=below_step hb2 (below_step hb3 hb4)
 have hb15:=hb14.alloc (show w1.heap.size≤w4.heap.size by omega) (.cells #[.slice (some ⟨g1,0,none⟩) 8 8,.slice (some ⟨g2,0,none⟩) s.size c3,.slice (some ⟨g3,0,none⟩) 8 8] 22)
 have hbel:Below H w w1:=(((Below.refl w.heap.size w).alloc (Nat.le_refl _) _).mono (Nat.le_of_eq hH1)).trans (hb1.mono (by omega))
 have hres:=(hR0.below hb1 (by omega)).old hb15
 have hst:Mk3 w H M k hi ho a2 n2 c2 P g1 g2 g3 c3 s.size w1.heap.size (P+1) (strL s) n 3 (.int .i64 0) (w4.alloc (.cells #[.slice (some ⟨g1,0,none⟩) 8 8,.slice (some ⟨g2,0,none⟩) s.size c3,.slice (some ⟨g3,0,none⟩) 8 8] 22)):=
  ⟨0,ha,hn1,hc,by omega,rfl,⟨hres,hM.old hb15,fun r hr=> .inl (hM.inn.row.lt hr).2.1,hz,hPe▸hP,((hB1.below hb3).below hb4).alloc _,(hB3.below hb4).alloc _,hB4.alloc _,⟨by omega,by omega⟩,⟨by omega,by omega⟩,⟨by omega,by omega⟩,⟨by omega,by omega⟩,by rw [World.size_alloc,hPe];omega,hbel.trans (hb15.mono (by omega))⟩⟩
 have HSM:=Lib.hid hsm
 clear hs1 hs2 hs3 hs4 hr2 hz hg2' hlt1 hlt3 hb14 hb15 hbel hres hP hB1 hB3 hB4 hb1 hb2 hb3 hb4 hM hR0 hk hg1 hg2 hg3 hsI
 obtain ⟨Z,hZ⟩:∃Z,Z=w1.heap.size:=⟨_,rfl⟩
 rw [←hZ] at hst
 have HPE:=Lib.hid hPe
 clear hZ hPe hH1
 go_wp2_with fail
 rw [←HPE.out,←HH.out]
 clear HPE
 refine g_forget (Mk3 w H M k hi ho a2 n2 c2 P g1 g2 g3 c3 s.size Z (P+1) (strL s) n 3 (.int .i64 0)) hst ?_
 clear hst
 intro w6 hst
 go_loopg [25] 3 (Mk3 w H M k hi ho a2 n2 c2 P g1 g2 g3 c3 s.size Z (P+1) (strL s) n)
 case atStart=>exact hst
 case round=>
  clear hst
  obtain ⟨t,ha,hn1,hc,hf,rfl,hI⟩:=hrel
  have HF:=Lib.hid hf
  clear hf
  by_cases ht:t<3
  ·have h3:t=0∨t=1∨t=2:=by omega
   have HS:=Lib.hid (fedN_succ s.size (strL s) n t)
   have hlen:(fedN s.size (strL s) n t).length≤400000000008:=by
    have hs0:=HSM.out
    have hs1:=strL_length s
    rcases h3 with rfl|rfl|rfl<;>simp [fedN,piece,be64_length,List.range_succ]<;>omega
   have HLN:=Lib.hid hlen
   clear hlen
   rcases h3 with rfl|rfl|rfl
   ·have c0:wr.cell? ⟨P,0,none⟩=some (.slice (some ⟨g1,0,none⟩) 8 8):=hI.pcs.cell rfl
    go_wp2_with fail
    clear c0
    refine (mwrite_any (H+1) M k _ (be64 s.size) hi ho ha hn1 hc a2 n2 c2 _ 8 8 _ hI.mac hI.b1 (be64_length _) (by have:=HLN.out;omega)).mono ?_
    rintro e w7 ⟨a7,n7,c7,rfl,hM7,hfr7,hr7⟩
    have hI7:=hI.write hM7 hfr7 hr7
    clear hM7 hfr7 hr7 hI
    go_wp2_with fail
    go_roundg (gk-1)
    case rel=>exact ⟨0+1,a7,n7,c7,by have:=HF.out;omega,by go_num,by rw [HS.out];exact hI7⟩
    case measure=>have:=HF.out;omega
   ·have c0:wr.cell? ⟨P,1,none⟩=some (.slice (some ⟨g2,0,none⟩) s.size c3):=hI.pcs.cell rfl
    go_wp2_with fail
    clear c0
    refine (mwrite_any (H+1) M k _ (strL s) hi ho ha hn1 hc a2 n2 c2 _ s.size c3 _ hI.mac hI.b2 (strL_length _) (by have:=HLN.out;have:=HSM.out;omega)).mono ?_
    rintro e w7 ⟨a7,n7,c7,rfl,hM7,hfr7,hr7⟩
    have hI7:=hI.write hM7 hfr7 hr7
    clear hM7 hfr7 hr7 hI
    go_wp2_with fail
    go_roundg (gk-1)
    case rel=>exact ⟨1+1,a7,n7,c7,by have:=HF.out;omega,by go_num,by rw [HS.out];exact hI7⟩
    case measure=>have:=HF.out;omega
   ·have c0:wr.cell? ⟨P,2,none⟩=some (.slice (some ⟨g3,0,none⟩) 8 8):=hI.pcs.cell rfl
    go_wp2_with fail
    clear c0
    refine (mwrite_any (H+1) M k _ (be64 n) hi ho ha hn1 hc a2 n2 c2 _ 8 8 _ hI.mac hI.b3 (be64_length _) (by have:=HLN.out;omega)).mono ?_
    rintro e w7 ⟨a7,n7,c7,rfl,hM7,hfr7,hr7⟩
    have hI7:=hI.write hM7 hfr7 hr7
    clear hM7 hfr7 hr7 hI
    go_wp2_with fail
    go_roundg (gk-1)
    case rel=>exact ⟨2+1,a7,n7,c7,by have:=HF.out;omega,by go_num,by rw [HS.out];exact hI7⟩
    case measure=>have:=HF.out;omega
  ·obtain rfl:t=3:=by have:=HF.out;omega
   rw [fedN_all] at hI
   have hlen:(keyb (strL s) s.size n).length≤400000000016:=by
    have hs0:=HSM.out
    have hs1:=strL_length s
    simp [keyb,be64_length];omega
   have HLN:=Lib.hid hlen
   clear hlen
   go_wp2_with fail
   refine (msum_any (H+1) M k _ hi ho ha hn1 hc a2 n2 c2 _ hI.mac (by have:=HLN.out;omega)).mono ?_
   rintro e w7 ⟨rfl,hb7⟩
   have hR7:=hI.res.old hb7
   have hw7:=hI.below.trans (hb7.mono (by have:=hI.res.lt;omega))
   clear hI hb7
   go_wp2_with (refine wpList_store_blk rfl 170 agg32 (.tmp 6) _ (cells:=mcA k (keyb (strL s) s.size n)) rfl rfl rfl hR7 (vA_size _ _) (vA_size _ _) (vA_one fun _ _=>rfl) ?_)
   exact post_blk rfl agg32 rfl (hR7.setRow _) (vA_size _ _) rfl ⟨rfl,HH.out▸below_setRow hw7 (Nat.le_refl _) _⟩
end
end Go.Proofs.YtioigihakjlopaaGreat

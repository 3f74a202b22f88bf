/- Texts put together and cut to what is used: MacNew, MacSum, ShaR, MacRef, MacRefSum, MacKey. -/
import Derived.Test.YtioigihakjlopaaGreatVB12
import Derived.Test.YtioigihakjlopaaGreatVB19
namespace Go.Proofs.YtioigihakjlopaaGreat
set_option linter.unusedVariables false
set_option linter.unusedSimpArgs false
section
open Go.RowKit
def mcs (hi ho:Nat):Array Value:= #[.pointer (some ⟨hi,0,none⟩),.pointer (some ⟨ho,0,none⟩)]
structure MacAt (w:World) (B M:Nat) (k l:List UInt8) (hi ho:Nat) (a:Option Addr) (n c:Nat) (a2:Option Addr) (n2 c2:Nat):Prop where
 mac:Blk w M (mcs hi ho) 256
 inn:HashAt w B hi (hin k l) a n c
 out:HashAt w B ho (padl (bkey k) 92) a2 n2 c2
 ne:hi≠ho
 row:rowB a c=none∨rowB a c≠rowB a2 c2
 leM:B≤M
 leI:B≤hi
 leO:B≤ho
def MacNewPost (w:World) (k:List UInt8) (e:Ending) (w':World):Prop:=
 ∃M hi ho a n c a2 n2 c2,e= .returned (.pointer (some ⟨M,0,none⟩))∧MacAt w' w.heap.size M k [] hi ho a n c a2 n2 c2∧Below w.heap.size w w'
structure MnI (w:World) (H M hi ho kb:Nat) (k l:List UInt8) (a:Option Addr) (n c:Nat) (wr:World):Prop where
 mac:Blk wr M (mcs hi ho) 256
 inn:HashAt wr H hi l a n c
 out:HashAt wr H ho [] none 0 0
 key:Blk wr kb (vA 64 fun i=>bv (bkey k i)) 257
 below:Below H w wr
theorem HashAt.fr {w w':World} {B g g2:Nat} {l:List UInt8} {a:Option Addr} {n c:Nat} {row:Option Nat} (h:HashAt w B g l a n c) (hfr:HsFr w w' g2 row) (hne:g≠g2) {cs:Array Value} (hG:Blk w g2 cs 270)
  (hr:(∀b,row=some b→rowB a c≠some b∧g≠b)∨row=none):HashAt w' B g l a n c:=by
 refine ⟨hfr.blk h.hash hne ?_,h.row.keep fun r hrr=> ?_,h.lt⟩
 ·intro e
  rcases hr with hr|hr
  ·exact (hr g e).2 rfl
  ·rw [hr] at e;cases e
 ·obtain ⟨_,hlt,cur,hcur⟩:=h.row.lt hrr
  refine hfr.block r hlt (Blk.ne hcur hG (by decide)) fun e=> ?_
  rcases hr with hr|hr
  ·exact (hr r e).1 hrr
  ·rw [hr] at e;cases e
theorem HsFr.but {w w':World} {g:Nat} (h:HsFr w w' g none):But g w w':=⟨h.size,fun b hb hne=>h.block b hb hne (by simp)⟩
set_option maxHeartbeats 1000000 in
set_option maxRecDepth 100000 in
theorem mnew_any (k:List UInt8) (a:Option Addr) (len cap:Nat) (w:World) (hm:BytesAt w a k) (hl:k.length=len) (hmax:len<140737488353000):
  Calls Tryz.prog 164 #[.slice a len cap] w (MacNewPost w k):=by
 obtain ⟨H,hH⟩:∃H,H=w.heap.size:=⟨_,rfl⟩
 have HH:=Lib.hid hH
 have HL:=Lib.hid hl
 clear hl hH
 go_enter Tryz.func164,Tryz.ntmps164
 go_wp2_with fail
 refine (shnew_any _).mono ?_
 rintro e w1 ⟨hi,rfl,hg1,hB1,hb1⟩
 go_wp2_with fail
 refine (shnew_any _).mono ?_
 rintro e w2 ⟨ho,rfl,hg2,hB2,hb2⟩
 go_upto_region 2 with fail
 have hM0:=Blk.new w2 (mcs hi ho) 256
 obtain ⟨M,hM⟩:∃M,M=w2.heap.size:=⟨_,rfl⟩
 rw [←hM] at hM0⊢
 have hs1:=hb1.size
 have hs2:=hb2.size
 have hi1:=hB1.lt
 have ho1:=hB2.lt
 refine wp_forget (fun W0=>Blk W0 M (mcs hi ho) 256∧HashAt W0 H hi [] none 0 0∧HashAt W0 H ho [] none 0 0∧BytesAt W0 a k∧Below H w W0) ⟨hM0,HashAt.nil ((hB1.old hb2).alloc _) H,HashAt.nil (hB2.alloc _) H,((hm.below hb1).below hb2).alloc _,by rw [HH.out];exact (below_step hb1 hb2).alloc (by omega) _⟩ ?_
 have hHi:H≤hi:=by rw [HH.out];exact hg1
 have hio:hi<ho:=by omega
 have hoM:ho<M:=by omega
 clear hM0 hM hs1 hs2 hi1 ho1 hB1 hB2 hb1 hb2 hg1 hg2 hm
 rintro w3 ⟨hM,hI,hO,hm,hb⟩
 go_wp2_with fail
 refine (mblock_any k a len cap _ hm HL.out hmax).mono ?_
 rintro e w4 ⟨rfl,hb4⟩
 have hMl:=hM.lt
 have hb04:=hb.trans (hb4.mono (by omega))
 have hM4:=hM.old hb4
 have hI4:=hI.old hb4
 have hO4:=hO.old hb4
 clear hM hI hO hm hb
 go_upto_region 3 with (refine wpList_store_blk rfl 257 agg64b (.tmp 4) _ (cells:=vA 64 fun i=>bv (bkey k i)) rfl rfl rfl (Blk.new _ _ _) (vA_size _ _) rfl (vA_one fun _ _=>rfl) ?_)
 obtain ⟨kb,hkb⟩:∃K,K=w4.heap.size:=⟨_,rfl⟩
 have hMk:M<kb:=by have:=hM4.lt;omega
 have hK0:=Blk.new w4 (vA 64 fun _=> .int .u8 0) 257
 rw [←hkb] at hK0⊢
 refine wp_forget (fun W0=>MnI w H M hi ho kb k [] none 0 0 W0) ⟨(hM4.alloc _).setRow_other _ _ (by omega),(hI4.alloc _).setRow hK0 (by decide) (by decide) _,(hO4.alloc _).setRow hK0 (by decide) (by decide) _,hK0.setRow _,below_setRow (hb04.alloc (by omega) _) (by omega) _⟩ ?_
 clear hMl hb04 hM4 hI4 hO4 hK0 hkb hb4
 rintro w5 hI
 have C0:∀W,But hi w5.drew W→W.cell? ⟨M,0,none⟩=some (.pointer (some ⟨hi,0,none⟩)):=fun W hW=>(hI.mac.drew.but hW (by omega)).cell rfl
 refine wp_region_treeB hi (.step 0 (.step 1 (.step 2 (.step 3 (.step 4 (.step 5 (.step 6 (.step 7 .done)))))))) (by kernel_rfl) (by kernel_rfl) (fun c a d v w h=>by cases d<;>exact h) ?_
 repeat (first|(refine tree_skip rfl (by rfl) ?_;simp only [Act.put,List.setIfInBounds_toArray,List.set])|(refine tree_quiet (v:= ?_) rfl rfl (by rfl) ?_ ?_;rotate_left;(intro W hW;go_simp);(try with_reducible rfl);simp only [Act.put,List.setIfInBounds_toArray,List.set]))
 refine tree_quiet (v:= .agg (vA 64 fun i=>bv (bkey k i))) rfl rfl (by rfl) (fun W hW=>exec_load_as 257 agg64b _ rfl rfl rfl (hI.key.drew.but hW (by omega)).cells (vL_length _ _)) ?_
 simp only [Act.put,List.setIfInBounds_toArray,List.set]
 refine tree_loud rfl rfl (by rfl) (fun K hK=> ?_);go_wp2_with fail
 refine (mwith_any (bkey k) 54 54 rfl _).mono ?_
 rintro e w6 ⟨g6,rfl,hg6,hr6,hb6⟩
 go_wp2_with fail
 refine hK _ _ (But.of hb6) ?_
 clear hK K
 refine tree_loud rfl rfl (by rfl) (fun K hK=> ?_);go_wp2_with fail
 have hb56:=((Below.refl w5.heap.size w5).drew).trans hb6
 have hI6:=hI.inn.old hb56
 refine (write_any H hi [] (padl (bkey k) 54) none 0 0 _ 64 64 _ hI6 hr6 (padl_length _ _) (by simp) (by have:=hI6.hash.lt;omega)).mono ?_
 rintro e w7 ⟨a7,n7,c7,rfl,hH7,hfr7,hr7⟩
 go_wp2_with fail
 refine hK _ _ (HsFr.but hfr7) ?_
 clear hK K
 refine tree_done ?_
 have hs6:w5.heap.size≤w6.heap.size:=hb56.size
 have hkl:=hI.key.lt
 refine g_forget (fun W0=>MnI w H M hi ho kb k (padl (bkey k) 54) a7 n7 c7 W0∧(rowB a7 c7=none∨∃b,rowB a7 c7=some b∧b<W0.heap.size)) ⟨⟨hfr7.blk (hI.mac.old hb56) (by omega) (by simp [rowB]),hH7,HashAt.nil (hfr7.blk (hI.out.hash.old hb56) (by omega) (by simp [rowB])) H,hfr7.blk (hI.key.old hb56) (by omega) (by simp [rowB]),(hI.below.trans (hb56.mono (by omega))).trans (hfr7.below hHi (by simp [rowB]) (by omega))⟩,?_⟩ ?_
 ·rcases hr7 with h|h|⟨b,h,_⟩
  ·exact .inl h
  ·exact .inl h
  ·exact .inr ⟨b,h,(hH7.row.lt h).2.1⟩
 clear hI hI6 hb6 hb56 hs6 hkl hfr7 hH7 hr7 hr6 C0
 rintro w8 ⟨hI,hrow⟩
 have HR:=Lib.hid hrow
 clear hrow
 have C1:∀W,But ho w8.drew W→W.cell? ⟨M,1,none⟩=some (.pointer (some ⟨ho,0,none⟩)):=fun W hW=>(hI.mac.drew.but hW (by omega)).cell rfl
 go_upto_region 4 with fail
 refine wp_region_treeB ho (.step 0 (.step 1 (.step 2 (.step 3 (.step 4 (.step 5 (.step 6 (.step 7 .done)))))))) (by kernel_rfl) (by kernel_rfl) (fun c a d v w h=>by cases d<;>exact h) ?_
 repeat (first|(refine tree_skip rfl (by rfl) ?_;simp only [Act.put,List.setIfInBounds_toArray,List.set])|(refine tree_quiet (v:= ?_) rfl rfl (by rfl) ?_ ?_;rotate_left;(intro W hW;go_simp);(try with_reducible rfl);simp only [Act.put,List.setIfInBounds_toArray,List.set]))
 refine tree_quiet (v:= .agg (vA 64 fun i=>bv (bkey k i))) rfl rfl (by rfl) (fun W hW=>exec_load_as 257 agg64b _ rfl rfl rfl (hI.key.drew.but hW (by omega)).cells (vL_length _ _)) ?_
 simp only [Act.put,List.setIfInBounds_toArray,List.set]
 refine tree_loud rfl rfl (by rfl) (fun K hK=> ?_);go_wp2_with fail
 refine (mwith_any (bkey k) 92 92 rfl _).mono ?_
 rintro e w6 ⟨g6,rfl,hg6,hr6,hb6⟩
 go_wp2_with fail
 refine hK _ _ (But.of hb6) ?_
 clear hK K
 refine tree_loud rfl rfl (by rfl) (fun K hK=> ?_);go_wp2_with fail
 have hb56:=((Below.refl w8.heap.size w8).drew).trans hb6
 have hI6:=hI.out.old hb56
 have hJ6:=hI.inn.old hb56
 refine (write_any H ho [] (padl (bkey k) 92) none 0 0 _ 64 64 _ hI6 hr6 (padl_length _ _) (by simp) (by have:=hI6.hash.lt;omega)).mono ?_
 rintro e w9 ⟨a9,n9,c9,rfl,hH9,hfr9,hr9⟩
 go_wp2_with fail
 refine hK _ _ (HsFr.but hfr9) ?_
 clear hK K
 refine tree_done ?_
 have hs6:w8.heap.size≤w6.heap.size:=hb56.size
 have hMl:=hI.mac.lt
 have hJ9:=hJ6.fr hfr9 (by omega) hI6.hash (.inr rfl)
 have hM9:=hfr9.blk (hI.mac.old hb56) (by omega) (by simp [rowB])
 have hb9:=(hI.below.trans (hb56.mono (by omega))).trans (hfr9.below (show H≤ho by omega) (by simp [rowB]) (by omega))
 have hrr:rowB a7 c7=none∨rowB a7 c7≠rowB a9 c9:=by
  rcases HR.out with h|⟨b,h,hlt⟩
  ·exact .inl h
  ·refine .inr fun e=> ?_
   rw [h] at e
   rcases hr9 with h2|h2|⟨b2,h2,hge⟩
   ·rw [h2] at e;cases e
   ·rw [h2] at e;simp [rowB] at e
   ·rw [h2] at e;cases e;omega
 have hA:MacAt w9 H M k [] hi ho a7 n7 c7 a9 n9 c9:=⟨hM9,by rw [hin,List.append_nil];exact hJ9,hH9,by omega,hrr,by omega,hHi,by omega⟩
 clear hI hI6 hJ6 hb6 hb56 hs6 hMl hJ9 hM9 hfr9 hH9 hr9 hrr hr6 C1
 go_wp2_with fail
 go_ret
 rw [HH.out] at hA hb9
 exact ⟨M,hi,ho,a7,n7,c7,a9,n9,c9,rfl,hA,hb9⟩
def MwPost (w:World) (B M:Nat) (k l:List UInt8) (hi ho:Nat) (row:Option Nat) (a2:Option Addr) (n2 c2:Nat) (e:Ending) (w':World):Prop:=
 ∃a n c,e= .returned (.int .i64 0)∧MacAt w' B M k l hi ho a n c a2 n2 c2∧HsFr w w' hi row∧(rowB a c=none∨rowB a c=row∨∃b,rowB a c=some b∧w.heap.size≤b)
theorem MacAt.old {w w':World} {B M:Nat} {k l:List UInt8} {hi ho:Nat} {a:Option Addr} {n c:Nat} {a2:Option Addr} {n2 c2:Nat} (h:MacAt w B M k l hi ho a n c a2 n2 c2) (hb:Below w.heap.size w w'):MacAt w' B M k l hi ho a n c a2 n2 c2:=
 ⟨h.mac.old hb,h.inn.old hb,h.out.old hb,h.ne,h.row,h.leM,h.leI,h.leO⟩
set_option maxHeartbeats 1000000 in
set_option maxRecDepth 100000 in
theorem mwrite_any (B M:Nat) (k l b:List UInt8) (hi ho:Nat) (a:Option Addr) (n c:Nat) (a2:Option Addr) (n2 c2:Nat) (ba:Option Addr) (len cap:Nat) (w:World) (hM:MacAt w B M k l hi ho a n c a2 n2 c2) (hb:BytesAt w ba b) (hlen:b.length=len) (hl:l.length+len<140737488353000):
  Calls Tryz.prog 165 #[.pointer (some ⟨M,0,none⟩),.slice ba len cap] w (MwPost w B M k (l++b) hi ho (rowB a c) a2 n2 c2):=by
 have c0:w.cell? ⟨M,0,none⟩=some (.pointer (some ⟨hi,0,none⟩)):=hM.mac.cell rfl
 have HL:=Lib.hid hlen
 clear hlen
 go_enter Tryz.func165,Tryz.ntmps165
 go_wp2_with fail
 clear c0
 refine (write_any B hi (hin k l) b a n c _ len cap w hM.inn hb HL.out (by rw [hin,List.length_append,padl_length];omega) (by have:=hM.inn.hash.lt;have:=hM.leI;omega)).mono ?_
 rintro e w1 ⟨a1,n1,c1,rfl,hH1,hfr1,hr1⟩
 go_wp2_with fail
 go_ret
 have hrow:rowB a c≠some M:=fun e=>by
  obtain ⟨_,_,cur,hcur⟩:=hM.inn.row.lt e
  exact Blk.ne hcur hM.mac (by decide) rfl
 have hne:M≠hi:=Blk.ne hM.mac hM.inn.hash (by decide)
 refine ⟨a1,n1,c1,rfl,⟨hfr1.blk hM.mac hne hrow,by rw [hin,←List.append_assoc];exact hH1,hM.out.fr hfr1 (Ne.symm hM.ne) hM.inn.hash ?_,hM.ne,?_,hM.leM,hM.leI,hM.leO⟩,hfr1,hr1⟩
 ·rcases hM.row with h|h
  ·exact .inr h
  ·refine .inl fun b hbr=>⟨fun e=>h (hbr.trans e.symm),fun e=> ?_⟩
   obtain ⟨_,_,cur,hcur⟩:=hM.inn.row.lt hbr
   exact Blk.ne hcur hM.out.hash (by decide) e.symm
 ·rcases hr1 with h|h|⟨b',h,hge⟩
  ·exact .inl h
  ·rw [h];exact hM.row
  ·refine .inr fun e=> ?_
   rw [h] at e
   have:=(hM.out.row.lt e.symm).2.1
   omega
set_option maxHeartbeats 1000000 in
set_option maxRecDepth 100000 in
theorem msum_any (B M:Nat) (k l:List UInt8) (hi ho:Nat) (a:Option Addr) (n c:Nat) (a2:Option Addr) (n2 c2:Nat) (w:World) (hM:MacAt w B M k l hi ho a n c a2 n2 c2) (hl:l.length<140737488352000):
  Calls Tryz.prog 167 #[.pointer (some ⟨M,0,none⟩)] w fun e w'=>e= .returned (.agg (mcA k l))∧Below w.heap.size w w':=by
 obtain ⟨H,hH⟩:∃H,H=w.heap.size:=⟨_,rfl⟩
 have hR0:=Blk.new w (vA 32 fun _=> .int .u8 0) 170
 rw [←hH] at hR0⊢
 go_enter Tryz.func167,Tryz.ntmps167
 go_upto_region 1 with fail
 rw [←hH]
 refine wp_forget (fun W0=>Blk W0 H (vA 32 fun _=> .int .u8 0) 170∧MacAt W0 B M k l hi ho a n c a2 n2 c2∧Below H w W0) ⟨hR0,hM.old ((Below.refl _ _).alloc (Nat.le_refl _) _),by rw [hH];(try unfold Kept);repeat (first|assumption|exact Below.refl _ _|exact below_undrew (Below.refl _ _)|exact Below.mono (by assumption) (by first|(simp;done)|(simp;omega)|omega)|refine below_setRow ?_ (by first|(simp;done)|(simp;omega)|omega) _|refine Below.setCell ?_ (by first|(simp;done)|(simp;omega)|omega) _|refine Below.alloc ?_ (by first|(simp;done)|(simp;omega)|omega) _|refine below_drewN ?_ _|refine Below.drew ?_|refine below_undrew ?_|refine below_step ?_ (by assumption))⟩ ?_
 have HH:=Lib.hid hH
 clear hR0 hM hH
 rintro w0 ⟨hR,hM,hb⟩
 have c1:w0.cell? ⟨M,1,none⟩=some (.pointer (some ⟨ho,0,none⟩)):=hM.mac.cell rfl
 have hRl:=hR.lt
 go_wp2_with fail
 refine (copy_any B ho _ a2 n2 c2 _ hM.out).mono ?_
 rintro e w1 ⟨g,a3,c3,rfl,hg,hH1,hb1⟩
 have hM1:=hM.old hb1
 have hR1:=hR.old hb1
 have hb01:=hb.trans (hb1.mono (by omega))
 have c0:w1.cell? ⟨M,0,none⟩=some (.pointer (some ⟨hi,0,none⟩)):=hM1.mac.cell rfl
 have hs1:=hb1.size
 have hH1:HashAt w1 (H+1) g _ _ _ _:=⟨hH1.hash,hH1.row.lower (by omega),hH1.lt⟩
 clear c1 hM hb1 hR hb
 go_wp2_with fail
 refine (hsum_any B hi (hin k l) a n c _ hM1.inn (by rw [hin,List.length_append,padl_length];omega)).mono ?_
 rintro e w2 ⟨rfl,hb2⟩
 have hR2:=hR1.old hb2
 have hH2:=hH1.old hb2
 have hb02:=hb01.trans (hb2.mono (by omega))
 have hs2:=hb2.size
 have hgl:=hH1.hash.lt
 clear c0 hM1 hR1 hH1 hb01 hb2
 go_upto_region 5 with (refine wpList_store_blk rfl 170 agg32 (.tmp 4) _ (cells:=dgA (hin k l)) rfl rfl rfl (Blk.new _ _ _) (vA_size _ _) rfl (vA_one fun _ _=>rfl) ?_)
 obtain ⟨K,hK⟩:∃K,K=w2.heap.size:=⟨_,rfl⟩
 have hK0:=Blk.new w2 (vA 32 fun _=> .int .u8 0) 170
 rw [←hK] at hK0⊢
 refine wp_forget (fun W0=>Blk W0 H (vA 32 fun _=> .int .u8 0) 170∧HashAt W0 (H+1) g (padl (bkey k) 92) a3 n2 c3∧Blk W0 K (dgA (hin k l)) 170∧Below H w W0) ⟨(hR2.alloc _).setRow_other _ _ (by omega),(hH2.alloc _).setRow hK0 (by decide) (by decide) _,hK0.setRow _,below_setRow (hb02.alloc (by omega) _) (by omega) _⟩ ?_
 have hgH:H<g:=by omega
 clear hR2 hH2 hb02 hK0 hK hs1 hs2 hgl hRl hg
 rintro w3 ⟨hR,hH3,hK,hb⟩
 have q2:=all32b K
 go_wp2_with fail
 refine (write_any (H+1) g (padl (bkey k) 92) (dgl (hin k l)) a3 n2 c3 _ 32 32 _ hH3 (dgl_at hK) (dgl_length _) (by rw [padl_length];omega) (by have:=hH3.hash.lt;omega)).mono ?_
 rintro e w4 ⟨a4,n4,c4,rfl,hH4,hfr4,hr4⟩
 have hrow:rowB a3 c3≠some H:=fun e=>by have:=(hH3.row.lt e).1;omega
 have hR4:=hfr4.blk hR (by omega) hrow
 have hb4:=hb.trans (hfr4.below (by omega) (fun b hb=>by have:=(hH3.row.lt hb).1;omega) (by have:=hR.lt;omega))
 clear hR hH3 hK hb q2 hfr4 hr4 hrow
 go_wp2_with fail
 refine (hsum_any (H+1) g (hout k l) a4 n4 c4 _ hH4 (by rw [hout,List.length_append,padl_length,dgl_length];omega)).mono ?_
 rintro e w5 ⟨rfl,hb5⟩
 have hR5:=hR4.old hb5
 have hb05:=hb4.trans (hb5.mono (by have:=hR4.lt;omega))
 go_wp2_with (refine wpList_store_blk rfl 170 agg32 (.tmp 2) _ (cells:=dgA (hout k l)) rfl rfl rfl hR5 (vA_size _ _) (vA_size _ _) (vA_one fun _ _=>rfl) ?_)
 exact post_blk rfl agg32 rfl (hR5.setRow _) (vA_size _ _) rfl ⟨rfl,below_setRow hb05 (Nat.le_refl _) _⟩
set_option maxHeartbeats 1000000 in
set_option maxRecDepth 100000 in
theorem mac_any (k b:List UInt8) (ka:Option Addr) (kn kc:Nat) (ba:Option Addr) (bn bc:Nat) (w:World) (hk:BytesAt w ka k) (hkl:k.length=kn) (hkm:kn<140737488352000) (hb:BytesAt w ba b) (hbl:b.length=bn) (hbm:bn<140737488352000):
  Calls Tryz.prog 143 #[.slice ka kn kc,.slice ba bn bc] w fun e w'=>e= .returned (.agg (mcA k b))∧Below w.heap.size w w':=by
 obtain ⟨H,hH⟩:∃H,H=w.heap.size:=⟨_,rfl⟩
 have hR0:=Blk.new w (vA 32 fun _=> .int .u8 0) 170
 rw [←hH] at hR0⊢
 have HK:=Lib.hid hkl
 have HB:=Lib.hid hbl
 clear hkl hbl
 go_enter Tryz.func143,Tryz.ntmps143
 go_upto_region 1 with fail
 rw [←hH]
 refine wp_forget (fun W0=>Blk W0 H (vA 32 fun _=> .int .u8 0) 170∧BytesAt W0 ka k∧BytesAt W0 ba b∧Below H w W0) ⟨hR0,hk.alloc _,hb.alloc _,by rw [hH];(try unfold Kept);repeat (first|assumption|exact Below.refl _ _|exact below_undrew (Below.refl _ _)|exact Below.mono (by assumption) (by first|(simp;done)|(simp;omega)|omega)|refine below_setRow ?_ (by first|(simp;done)|(simp;omega)|omega) _|refine Below.setCell ?_ (by first|(simp;done)|(simp;omega)|omega) _|refine Below.alloc ?_ (by first|(simp;done)|(simp;omega)|omega) _|refine below_drewN ?_ _|refine Below.drew ?_|refine below_undrew ?_|refine below_step ?_ (by assumption))⟩ ?_
 have HH:=Lib.hid hH
 clear hR0 hk hb hH
 rintro w0 ⟨hR,hk,hbb,hb⟩
 have hRl:=hR.lt
 go_wp2_with fail
 refine (mnew_any k ka kn kc _ hk HK.out (by omega)).mono ?_
 rintro e w1 ⟨M,hi,ho,a,n,c,a2,n2,c2,rfl,hM1,hb1⟩
 have hs1:=hb1.size
 have hR1:=hR.old hb1
 have hb01:=hb.trans (hb1.mono (by omega))
 have hbb1:=hbb.below hb1
 clear hk hbb hb hR
 go_wp2_with fail
 refine (mwrite_any w0.heap.size M k [] b hi ho a n c a2 n2 c2 ba bn bc _ hM1 hbb1 HB.out (by simp;omega)).mono ?_
 rintro e w2 ⟨a3,n3,c3,rfl,hM2,hfr2,hr2⟩
 have hrow:rowB a c≠some H:=fun e=>by have:=(hM1.inn.row.lt e).1;omega
 have hhi:=hM1.leI
 have hR2:=hfr2.blk hR1 (by omega) hrow
 have hb02:=hb01.trans (hfr2.below (by omega) (fun b hb=>by have:=(hM1.inn.row.lt hb).1;omega) (by omega))
 rw [List.nil_append] at hM2
 clear hR1 hb01 hbb1 hfr2 hr2 hrow hM1 hb1
 go_wp2_with fail
 refine (msum_any w0.heap.size M k b hi ho a3 n3 c3 a2 n2 c2 _ hM2 (by rw [HB.out];exact hbm)).mono ?_
 rintro e w3 ⟨rfl,hb3⟩
 have hR3:=hR2.old hb3
 have hb03:=hb02.trans (hb3.mono (by have:=hR2.lt;omega))
 go_wp2_with (refine wpList_store_blk rfl 170 agg32 (.tmp 4) _ (cells:=mcA k b) rfl rfl rfl hR3 (vA_size _ _) (vA_size _ _) (vA_one fun _ _=>rfl) ?_)
 exact post_blk rfl agg32 rfl (hR3.setRow _) (vA_size _ _) rfl ⟨rfl,below_setRow hb03 (Nat.le_refl _) _⟩
end
section
open Go.RowKit
open Go.RowKit
def tsB (third:Bool) (y n:Nat):Bool:=if third then decide (y<68719476736)&&pwB true y n else pwB false y n
def hfx (third:Bool) (n:Nat):Nat→Nat
 |0=>0
 |k+1=>if tsB third (hfx third n k+2^(39-k)) n then hfx third n k+2^(39-k) else hfx third n k
open Go.RowKit
open Go.RowKit
open Go.RowKit
theorem conv_U8 (c:UInt8):U8 c%(4294967296:Int)=U32 (c.toBitVec.setWidth 32):=by
 rw [←ofInt32_U8,show U8 c%(4294967296:Int)=U8 c from by have:=U8_lo c;have:=U8_hi c;omega]
 have h:(U8 c)=((c.toNat:Nat):Int):=rfl
 rw [h,BitVec.ofInt_natCast,U32,BitVec.toNat_ofNat,Nat.mod_eq_of_lt]
 have:=U8_hi c;rw [h] at this;omega
theorem shl16_U32 (a:BitVec 32):U32 a*(65536:Int)%(4294967296:Int)=U32 (a<<<16):=U32_shl a 16
theorem shl24_U32 (a:BitVec 32):U32 a*(16777216:Int)%(4294967296:Int)=U32 (a<<<24):=U32_shl a 24
attribute [local go_sem] shl8_U32 shl16_U32 shl24_U32 conv_U8 ofInt32_U8 bits_xor_u32 bits_and_u32 bits_or_u32 ofInt_U32 addm_U32 add_U32 div8_U32 div1024_U32 not_u32
end
section
open Go.RowKit
theorem be64_div (n i:Nat) (p:Int) (hp:p=((2^(56-8*i):Nat):Int)):(n:Int)/p%256=U8 (be64b n i):=by
 have e:U8 (be64b n i)=(((n/2^(56-8*i))%2^8:Nat):Int):=by
  show (((BitVec.ofNat 8 (n/2^(56-8*i))).toNat:Nat):Int)=_
  rw [BitVec.toNat_ofNat]
 rw [e,hp]
 generalize 2^(56-8*i)=P
 rw [Int.natCast_emod,Int.natCast_ediv]
 rfl
end
section
open Go.RowKit
theorem BytesAt.cellAt {w:World} {a:Option Addr} {l:List UInt8} (h:BytesAt w a l) (i:Nat) (hi:i<l.length):∃b o,a=some ⟨b,o,none⟩∧w.cell? ⟨b,o+i,none⟩=some (.int .u8 (U8 (l.getD i 0))):=by
 obtain ⟨b,o,e,hc⟩:=h.at (by omega)
 exact ⟨b,o,e,by rw [hc i hi];simp [hi]⟩
attribute [local go_sem] bits_xor_u8 ofInt_U8
end
section
open Go.RowKit
def Eg1 (w:World) (H n:Nat) (f:Nat) (i:Value) (wr:World):Prop:=
 ∃t:Nat,f+t=8∧i= .int .i64 (t:Int)∧Blk wr H (vA 8 fun j=>if j<t then bv (be64b n j) else .int .u8 0) 260∧Below H w wr
theorem zero8b:(Tryz.prog.info? 260).bind (·.zero)=some (.agg (vA 8 fun _=> .int .u8 0)):=by kernel_rfl
theorem be64_step (n t j:Nat) (x:Int) (h:x=U8 (be64b n t)):(if j=t then Value.int .u8 x else if j<t then bv (be64b n j) else .int .u8 0)=if j<t+1 then bv (be64b n j) else .int .u8 0:=by
 subst h
 by_cases e:j=t
 ·subst e;rw [if_pos rfl,if_pos (by omega)];rfl
 ·rw [if_neg e]
  by_cases e2:j<t
  ·rw [if_pos e2,if_pos (by omega)]
  ·rw [if_neg e2,if_neg (by omega)]
set_option maxHeartbeats 1000000 in
set_option maxRecDepth 40000 in
theorem eight_any (n:Nat) (hn:n<18446744073709551616) (w:World):Calls Tryz.prog 166 #[.int .u64 (n:Int)] w fun e w'=>∃g,e= .returned (.slice (some ⟨g,0,none⟩) 8 8)∧w.heap.size≤g∧BytesAt w' (some ⟨g,0,none⟩) (be64 n)∧Below w.heap.size w w':=by
 have hnI:(n:Int)≤18446744073709551615:=by omega
 have hn0:(0:Int)≤(n:Int):=by omega
 obtain ⟨H,hH⟩:∃H,H=w.heap.size:=⟨_,rfl⟩
 rw [←hH]
 have hB0:=Blk.new w (vA 8 fun _=> .int .u8 0) 260
 have hz1:=zero_run zero8b
 go_enter Tryz.func166,Tryz.ntmps166
 go_upto_region 2 with fail
 clear hz1
 rw [←hH] at hB0⊢
 refine wp_forget (fun W0=>Eg1 w H n 8 (.int .i64 0) W0) ⟨0,by omega,rfl,hB0.ofV fun j _=>by rw [if_neg (by omega)],by rw [hH];(try unfold Kept);repeat (first|assumption|exact Below.refl _ _|exact below_undrew (Below.refl _ _)|exact Below.mono (by assumption) (by first|(simp;done)|(simp;omega)|omega)|refine below_setRow ?_ (by first|(simp;done)|(simp;omega)|omega) _|refine Below.setCell ?_ (by first|(simp;done)|(simp;omega)|omega) _|refine Below.alloc ?_ (by first|(simp;done)|(simp;omega)|omega) _|refine below_drewN ?_ _|refine Below.drew ?_|refine below_undrew ?_|refine below_step ?_ (by assumption))⟩ ?_
 have HH:=Lib.hid hH
 clear hB0 hH
 intro w1 hst
 go_wp2_with fail
 go_loopg [4,5] 8 (fun g _ i wr=>Eg1 w H n g i wr)
 case atStart=>exact hst
 case round=>
  clear hst
  obtain ⟨t,hf,rfl,hB,hb⟩:=hrel
  have HF:=Lib.hid hf
  clear hf
  by_cases ht:t<8
  ·have HE:=Lib.hid fun p=>be64_div n t p
   have f0:=hB.free
   have h8:t=0∨t=1∨t=2∨t=3∨t=4∨t=5∨t=6∨t=7:=by omega
   rcases h8 with rfl|rfl|rfl|rfl|rfl|rfl|rfl|rfl
   all_goals
    have c0:=hB.atV (by omega) rfl
    go_wp2_with fail
    clear c0 f0
    go_roundg (gk-1)
    case rel=>
     have hf:=HF.out
     refine ⟨_,by omega,by go_num,(hB.setV (by omega) _).ofV fun j _=>be64_step n _ j _ ?_,hb.setCell (by show H≤H;omega) _⟩
     first
      |exact HE.out _ rfl
      |(have E:=HE.out 72057594037927936 rfl;rw [←E];omega)
      |(have E:=HE.out 1 rfl;rw [←E];omega)
    case measure=>have hf:=HF.out;omega
  ·obtain rfl:t=8:=by have:=HF.out;omega
   have hsl:=all8b H
   go_wp2_with fail
   go_ret
   refine ⟨H,rfl,Nat.le_refl _,?_,hb⟩
   have hTT:=hB.ofV (g:=fun j=>bv (be64b n j)) fun j hj=>if_pos hj
   refine RowAt.mk fun j hj=> ?_
   rw [List.length_map,be64_length] at hj
   rw [Nat.zero_add,hTT.atV hj rfl]
   simp [be64]
theorem RowAt.keepB {w w':World} {g o:Nat} {vs:List Value} (h:RowAt w (some ⟨g,o,none⟩) vs) (hk:w'.heap[g]? =w.heap[g]?):RowAt w' (some ⟨g,o,none⟩) vs:=by
 intro i hi
 obtain ⟨b,o',e,hc⟩:=h i hi
 cases e
 refine ⟨g,o,rfl,?_⟩
 unfold World.cell? at hc⊢
 simp only at hc⊢
 rw [hk];exact hc
def keyb (name:List UInt8) (nl n:Nat):List UInt8:=be64 nl++name++be64 n
structure MkI (w:World) (H M:Nat) (k fed:List UInt8) (hi ho:Nat) (ha:Option Addr) (hn hc:Nat) (a2:Option Addr) (n2 c2:Nat) (P g1 g2 g3 cN nn Z Y:Nat) (name:List UInt8) (n:Nat) (wr:World):Prop where
 res:Blk wr H (vA 32 fun _=> .int .u8 0) 170
 mac:MacAt wr (H+1) M k fed hi ho ha hn hc a2 n2 c2
 row:∀r,rowB ha hc=some r→r<Z∨Y≤r
 hi:hi<Z
 pcs:Blk wr P #[.slice (some ⟨g1,0,none⟩) 8 8,.slice (some ⟨g2,0,none⟩) nn cN,.slice (some ⟨g3,0,none⟩) 8 8] 22
 b1:BytesAt wr (some ⟨g1,0,none⟩) (be64 nn)
 b2:BytesAt wr (some ⟨g2,0,none⟩) name
 b3:BytesAt wr (some ⟨g3,0,none⟩) (be64 n)
 o1:Z≤g1∧g1<Y
 o2:Z≤g2∧g2<Y
 o3:Z≤g3∧g3<Y
 oP:Z≤P∧P<Y
 le:Y≤wr.heap.size
 below:Below H w wr
section
variable {w:World} {H M:Nat} {k fed:List UInt8} {hi ho:Nat} {ha:Option Addr} {hn hc:Nat} {a2:Option Addr} {n2 c2:Nat} {P g1 g2 g3 cN nn Z Y:Nat} {name:List UInt8} {n:Nat} {wr wq:World}
theorem MkI.write (h:MkI w H M k fed hi ho ha hn hc a2 n2 c2 P g1 g2 g3 cN nn Z Y name n wr) {p:List UInt8} {a':Option Addr} {n' c':Nat} (hm:MacAt wq (H+1) M k (fed++p) hi ho a' n' c' a2 n2 c2) (hfr:HsFr wr wq hi (rowB ha hc))
  (hr:rowB a' c'=none∨rowB a' c'=rowB ha hc∨∃b,rowB a' c'=some b∧wr.heap.size≤b):MkI w H M k (fed++p) hi ho a' n' c' a2 n2 c2 P g1 g2 g3 cN nn Z Y name n wq:=by
 have hle:=h.le
 have hhi:=h.hi
 have keep:∀g,Z≤g→g<Y→wq.heap[g]? =wr.heap[g]? :=fun g h1 h2=>hfr.block g (by omega) (by omega) fun e=>by
  have:=h.row g e;omega
 refine ⟨hfr.blk h.res (by have:=h.mac.leI;omega) fun e=>by have:=(h.mac.inn.row.lt e).1;omega,hm,fun r hr'=> ?_,hhi,?_,h.b1.keepB (keep _ h.o1.1 h.o1.2),h.b2.keepB (keep _ h.o2.1 h.o2.2),h.b3.keepB (keep _ h.o3.1 h.o3.2),h.o1,h.o2,h.o3,h.oP,Nat.le_trans hle hfr.size,h.below.trans (hfr.below (by have:=h.mac.leI;omega) (fun b hb=>by have:=(h.mac.inn.row.lt hb).1;omega) (by have:=h.res.lt;omega))⟩
 ·rcases hr with h1|h1|⟨b,h1,h2⟩
  ·rw [h1] at hr';cases hr'
  ·rw [h1] at hr';exact h.row r hr'
  ·rw [h1] at hr';cases hr';omega
 ·have e:=h.pcs
  unfold Blk at e⊢
  rw [keep _ h.oP.1 h.oP.2];exact e
end
def piece (nn:Nat) (name:List UInt8) (n t:Nat):List UInt8:=if t=0 then be64 nn else if t=1 then name else be64 n
def fedN (nn:Nat) (name:List UInt8) (n t:Nat):List UInt8:=((List.range t).map (piece nn name n)).flatten
theorem fedN_succ (nn:Nat) (name:List UInt8) (n t:Nat):fedN nn name n (t+1)=fedN nn name n t++piece nn name n t:=by simp [fedN,List.range_succ]
theorem fedN_all (nn:Nat) (name:List UInt8) (n:Nat):fedN nn name n 3=keyb name nn n:=by
 simp [fedN,keyb,piece,List.range_succ]
def Mk3 (w:World) (H M:Nat) (k:List UInt8) (hi ho:Nat) (a2:Option Addr) (n2 c2:Nat) (P g1 g2 g3 cN nn Z Y:Nat) (name:List UInt8) (n:Nat) (f:Nat) (i:Value) (wr:World):Prop:=
 ∃(t:Nat) (ha:Option Addr) (hn hc:Nat),f+t=3∧i= .int .i64 (t:Int)∧MkI w H M k (fedN nn name n t) hi ho ha hn hc a2 n2 c2 P g1 g2 g3 cN nn Z Y name n wr
def McOut (w:World) (k b:List UInt8) (e:Ending) (w':World):Prop:=e= .returned (.agg (mcA k b))∧Below w.heap.size w w'
set_option maxHeartbeats 2000000 in
set_option maxRecDepth 100000 in
theorem mkey_any (k:List UInt8) (ka:Option Addr) (kn kc:Nat) (s:ByteArray) (n:Nat) (w:World) (hk:BytesAt w ka k) (hkl:k.length=kn) (hkm:kn<140737488352000) (hsm:s.size<400000000000) (hn:n<18446744073709551616):
  Calls Tryz.prog 139 #[.slice ka kn kc,.string s,.int .u64 (n:Int)] w (McOut w k (keyb (strL s) s.size n)):=by
 have HK:=Lib.hid hkl
 obtain ⟨H,hH⟩:∃H,H=w.heap.size:=⟨_,rfl⟩
 have HH:=Lib.hid hH
 have hR0:=Blk.new w (vA 32 fun _=> .int .u8 0) 170
 rw [←hH] at hR0
 clear hkl hH
 go_enter Tryz.func139,Tryz.ntmps139
 go_wp2_with fail
 refine (mnew_any k ka kn kc _ (hk.alloc _) HK.out (by omega)).mono ?_
 rintro e w1 ⟨M,hi,ho,ha,hn1,hc,a2,n2,c2,rfl,hM,hb1⟩
 simp only [World.size_alloc] at hM hb1
 rw [←HH.out] at hM hb1
 go_wp2_with fail
 have hsI:(s.size:Int)≤400000000000:=by omega
 refine (eight_any s.size (by omega) _).mono ?_
 rintro e w2 ⟨g1,rfl,hg1,hB1,hb2⟩
 go_wp2_with (refine wpList_bytes_of rfl 9 22 (.tmp 19) rfl Tryz.underlying9 Tryz.underlying22 Tryz.underlying5 rfl ?_;intro c3 w3 hB3 hb3 hg2')
 refine (eight_any n hn _).mono ?_
 rintro e w4 ⟨g3,rfl,hg3,hB4,hb4⟩
 obtain ⟨g2,hg2⟩:∃g,g=w2.heap.size:=⟨_,rfl⟩
 rw [←hg2] at hB3 hg2'⊢
 have hs2:=hb2.size
 have hs3:=hb3.size
 have hs4:=hb4.size
 have hr2:=World.size_alloc w (.cells (vA 32 fun _=> .int .u8 0) 170)
 have hs1:=hb1.size
 simp only [World.size_alloc] at hs1
 have hH1:H=w.heap.size:=HH.out
 have hz:=hM.inn.hash.lt
 have hP:=Blk.new w4 #[.slice (some ⟨g1,0,none⟩) 8 8,.slice (some ⟨g2,0,none⟩) s.size c3,.slice (some ⟨g3,0,none⟩) 8 8] 22
 obtain ⟨P,hPe⟩:∃P,P=w4.heap.size:=⟨_,rfl⟩
 have hlt1:g1<w2.heap.size:=RowAt.lt hB1 (by rw [List.length_map,be64_length];omega)
 have hlt3:g3<w4.heap.size:=RowAt.lt hB4 (by rw [List.length_map,be64_length];omega)
 have hb14:=below_step hb2 (below_step hb3 hb4)
 have hb15:=hb14.alloc (show w1.heap.size≤w4.heap.size by omega) (.cells #[.slice (some ⟨g1,0,none⟩) 8 8,.slice (some ⟨g2,0,none⟩) s.size c3,.slice (some ⟨g3,0,none⟩) 8 8] 22)
 have hbel:Below H w w1:=(((Below.refl w.heap.size w).alloc (Nat.le_refl _) _).mono (Nat.le_of_eq hH1)).trans (hb1.mono (by omega))
 have hres:=(hR0.below hb1 (by omega)).old hb15
 have hst:Mk3 w H M k hi ho a2 n2 c2 P g1 g2 g3 c3 s.size w1.heap.size (P+1) (strL s) n 3 (.int .i64 0) (w4.alloc (.cells #[.slice (some ⟨g1,0,none⟩) 8 8,.slice (some ⟨g2,0,none⟩) s.size c3,.slice (some ⟨g3,0,none⟩) 8 8] 22)):=
  ⟨0,ha,hn1,hc,by omega,rfl,⟨hres,hM.old hb15,fun r hr=> .inl (hM.inn.row.lt hr).2.1,hz,hPe▸hP,((hB1.below hb3).below hb4).alloc _,(hB3.below hb4).alloc _,hB4.alloc _,⟨by omega,by omega⟩,⟨by omega,by omega⟩,⟨by omega,by omega⟩,⟨by omega,by omega⟩,by rw [World.size_alloc,hPe];omega,hbel.trans (hb15.mono (by omega))⟩⟩
 have HSM:=Lib.hid hsm
 clear hs1 hs2 hs3 hs4 hr2 hz hg2' hlt1 hlt3 hb14 hb15 hbel hres hP hB1 hB3 hB4 hb1 hb2 hb3 hb4 hM hR0 hk hg1 hg2 hg3 hsI
 obtain ⟨Z,hZ⟩:∃Z,Z=w1.heap.size:=⟨_,rfl⟩
 rw [←hZ] at hst
 have HPE:=Lib.hid hPe
 clear hZ hPe hH1
 go_wp2_with fail
 rw [←HPE.out,←HH.out]
 clear HPE
 refine g_forget (Mk3 w H M k hi ho a2 n2 c2 P g1 g2 g3 c3 s.size Z (P+1) (strL s) n 3 (.int .i64 0)) hst ?_
 clear hst
 intro w6 hst
 go_loopg [25] 3 (Mk3 w H M k hi ho a2 n2 c2 P g1 g2 g3 c3 s.size Z (P+1) (strL s) n)
 case atStart=>exact hst
 case round=>
  clear hst
  obtain ⟨t,ha,hn1,hc,hf,rfl,hI⟩:=hrel
  have HF:=Lib.hid hf
  clear hf
  by_cases ht:t<3
  ·have h3:t=0∨t=1∨t=2:=by omega
   have HS:=Lib.hid (fedN_succ s.size (strL s) n t)
   have hlen:(fedN s.size (strL s) n t).length≤400000000008:=by
    have hs0:=HSM.out
    have hs1:=strL_length s
    rcases h3 with rfl|rfl|rfl<;>simp [fedN,piece,be64_length,List.range_succ]<;>omega
   have HLN:=Lib.hid hlen
   clear hlen
   rcases h3 with rfl|rfl|rfl
   ·have c0:wr.cell? ⟨P,0,none⟩=some (.slice (some ⟨g1,0,none⟩) 8 8):=hI.pcs.cell rfl
    go_wp2_with fail
    clear c0
    refine (mwrite_any (H+1) M k _ (be64 s.size) hi ho ha hn1 hc a2 n2 c2 _ 8 8 _ hI.mac hI.b1 (be64_length _) (by have:=HLN.out;omega)).mono ?_
    rintro e w7 ⟨a7,n7,c7,rfl,hM7,hfr7,hr7⟩
    have hI7:=hI.write hM7 hfr7 hr7
    clear hM7 hfr7 hr7 hI
    go_wp2_with fail
    go_roundg (gk-1)
    case rel=>exact ⟨0+1,a7,n7,c7,by have:=HF.out;omega,by go_num,by rw [HS.out];exact hI7⟩
    case measure=>have:=HF.out;omega
   ·have c0:wr.cell? ⟨P,1,none⟩=some (.slice (some ⟨g2,0,none⟩) s.size c3):=hI.pcs.cell rfl
    go_wp2_with fail
    clear c0
    refine (mwrite_any (H+1) M k _ (strL s) hi ho ha hn1 hc a2 n2 c2 _ s.size c3 _ hI.mac hI.b2 (strL_length _) (by have:=HLN.out;have:=HSM.out;omega)).mono ?_
    rintro e w7 ⟨a7,n7,c7,rfl,hM7,hfr7,hr7⟩
    have hI7:=hI.write hM7 hfr7 hr7
    clear hM7 hfr7 hr7 hI
    go_wp2_with fail
    go_roundg (gk-1)
    case rel=>exact ⟨1+1,a7,n7,c7,by have:=HF.out;omega,by go_num,by rw [HS.out];exact hI7⟩
    case measure=>have:=HF.out;omega
   ·have c0:wr.cell? ⟨P,2,none⟩=some (.slice (some ⟨g3,0,none⟩) 8 8):=hI.pcs.cell rfl
    go_wp2_with fail
    clear c0
    refine (mwrite_any (H+1) M k _ (be64 n) hi ho ha hn1 hc a2 n2 c2 _ 8 8 _ hI.mac hI.b3 (be64_length _) (by have:=HLN.out;omega)).mono ?_
    rintro e w7 ⟨a7,n7,c7,rfl,hM7,hfr7,hr7⟩
    have hI7:=hI.write hM7 hfr7 hr7
    clear hM7 hfr7 hr7 hI
    go_wp2_with fail
    go_roundg (gk-1)
    case rel=>exact ⟨2+1,a7,n7,c7,by have:=HF.out;omega,by go_num,by rw [HS.out];exact hI7⟩
    case measure=>have:=HF.out;omega
  ·obtain rfl:t=3:=by have:=HF.out;omega
   rw [fedN_all] at hI
   have hlen:(keyb (strL s) s.size n).length≤400000000016:=by
    have hs0:=HSM.out
    have hs1:=strL_length s
    simp [keyb,be64_length];omega
   have HLN:=Lib.hid hlen
   clear hlen
   go_wp2_with fail
   refine (msum_any (H+1) M k _ hi ho ha hn1 hc a2 n2 c2 _ hI.mac (by have:=HLN.out;omega)).mono ?_
   rintro e w7 ⟨rfl,hb7⟩
   have hR7:=hI.res.old hb7
   have hw7:=hI.below.trans (hb7.mono (by have:=hI.res.lt;omega))
   clear hI hb7
   go_wp2_with (refine wpList_store_blk rfl 170 agg32 (.tmp 6) _ (cells:=mcA k (keyb (strL s) s.size n)) rfl rfl rfl hR7 (vA_size _ _) (vA_size _ _) (vA_one fun _ _=>rfl) ?_)
   exact post_blk rfl agg32 rfl (hR7.setRow _) (vA_size _ _) rfl ⟨rfl,HH.out▸below_setRow hw7 (Nat.le_refl _) _⟩
end
end Go.Proofs.YtioigihakjlopaaGreat

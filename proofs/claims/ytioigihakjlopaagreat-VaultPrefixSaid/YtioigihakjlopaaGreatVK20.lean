/- Texts put together and cut to what is used: ShaHash, ShaNew. -/
import Derived.Test.YtioigihakjlopaaGreatVK19
namespace Go.Proofs.YtioigihakjlopaaGreat
set_option linter.unusedVariables false
set_option linter.unusedSimpArgs false
section
open Go.RowKit
theorem bytesT3:RowType Tryz.prog 22 5 1 1:=RowType.mk (z:= .int .u8 0) Tryz.underlying22 (by kernel_rfl) rfl (by omega)
theorem u8Info:(Tryz.prog.info? 5).map (·.size)=some 1:=by kernel_rfl
structure HsI (w:World) (B g:Nat) (l:List UInt8) (i:Nat) (a:Option Addr) (n c:Nat):Prop where
 hash:Blk w g (vA 74 (hcs (stt l i) (.slice a n c) (.int .u64 (l.length:Int)))) 270
 row:Mid w B 5 a n c ((l.drop (64*i)).map bv)
 lt:l.length<140737488355000
def HashAt (w:World) (B g:Nat) (l:List UInt8) (a:Option Addr) (n c:Nat):Prop:=HsI w B g l (l.length/64) a n c
structure HsFr (w w':World) (g:Nat) (row:Option Nat):Prop where
 os:w'.os=w.os
 tape:w'.tape=w.tape
 output:w'.output=w.output
 size:w.heap.size≤w'.heap.size
 block:∀b,b<w.heap.size→b≠g→row≠some b→w'.heap[b]? =w.heap[b]?
theorem HsFr.refl (w:World) (g:Nat) (row:Option Nat):HsFr w w g row:=⟨rfl,rfl,rfl,Nat.le_refl _,fun _ _ _ _=>rfl⟩
theorem HsFr.only {w w1 w2:World} {g:Nat} {row:Option Nat} (h:HsFr w w1 g row) (ho:w1.grownBy w2 (some g)):HsFr w w2 g row:=
 ⟨ho.os.trans h.os,ho.tape.trans h.tape,ho.output.trans h.output,Nat.le_trans h.size ho.size,fun b hb hg hr=>(ho.block b (Nat.lt_of_lt_of_le hb h.size) (by simpa using hg)).trans (h.block b hb hg hr)⟩
theorem HsFr.grown {w w1 w2:World} {g:Nat} {row row':Option Nat} (h:HsFr w w1 g row) (ho:w1.grownBy w2 row') (hr:row'=none∨row'=row∨∃b,row'=some b∧w.heap.size≤b):HsFr w w2 g row:=
 ⟨ho.os.trans h.os,ho.tape.trans h.tape,ho.output.trans h.output,Nat.le_trans h.size ho.size,fun b hb hg hrow=>(ho.block b (Nat.lt_of_lt_of_le hb h.size) (by
  rcases hr with rfl|rfl|⟨b',rfl,hb'⟩
  ·simp
  ·exact fun e=>hrow e.symm
  ·simp;omega)).trans (h.block b hb hg hrow)⟩
theorem HsFr.below {w w':World} {B g:Nat} {row:Option Nat} (h:HsFr w w' g row) (hg:B≤g) (hr:∀b,row=some b→B≤b) (hB:B≤w.heap.size):Below B w w':=
 ⟨h.os,h.tape,h.output,h.size,fun b hb=>h.block b (by omega) (by omega) (fun e=>by have:=hr b e;omega)⟩
theorem HsFr.blk {w w':World} {g:Nat} {row:Option Nat} (h:HsFr w w' g row) {b:Nat} {cs:Array Value} {t:TypeId} (hb:Blk w b cs t) (hg:b≠g) (hr:row≠some b):Blk w' b cs t:=(h.block b hb.lt hg hr).trans hb
theorem stt_more {l b:List UInt8} {i:Nat} (h:64*i≤l.length):∀j,j<8→stt (l++b) i j=stt l i j:=
 stt_eq i fun k hk=>by
  unfold byt
  rw [List.getD_eq_getElem?_getD,List.getD_eq_getElem?_getD,List.getElem?_append_left (by omega)]
theorem hcs_eq {h h':Nat→BitVec 32} {r n:Value} (e:∀j,j<8→h j=h' j) (j:Nat):hcs h r n j=hcs h' r n j:=by
 unfold hcs
 by_cases hj:j<8
 ·rw [if_pos hj,if_pos hj,e j hj]
 ·rw [if_neg hj,if_neg hj]
theorem hcs_set8 (h:Nat→BitVec 32) (r n v:Value) (j:Nat):(if j=8 then v else hcs h r n j)=hcs h v n j:=by
 unfold hcs
 by_cases e:j=8
 ·subst e;simp
 ·rw [if_neg e]
  by_cases hj:j<8
  ·rw [if_pos hj,if_pos hj]
  ·rw [if_neg hj,if_neg hj,if_neg e,if_neg e]
theorem hcs_set9 (h:Nat→BitVec 32) (r n v:Value) (j:Nat):(if j=9 then v else hcs h r n j)=hcs h r v j:=by
 unfold hcs
 by_cases e:j=9
 ·subst e;simp
 ·rw [if_neg e]
  by_cases hj:j<8
  ·rw [if_pos hj,if_pos hj]
  ·rw [if_neg hj,if_neg hj]
   by_cases h8:j=8
   ·rw [if_pos h8,if_pos h8]
   ·rw [if_neg h8,if_neg h8,if_neg e,if_neg e]
theorem hcs_8 (h:Nat→BitVec 32) (r n:Value):hcs h r n 8=r:=by simp [hcs]
theorem hcs_9 (h:Nat→BitVec 32) (r n:Value):hcs h r n 9=n:=by simp [hcs]
def Wr1 (w:World) (B g:Nat) (all:List UInt8) (row:Option Nat) (f:Nat) (wr:World):Prop:=
 ∃(i:Nat) (a:Option Addr) (n c:Nat),f+i=all.length/64∧n+64*i=all.length∧HsI wr B g all i a n c∧HsFr w wr g row∧(rowB a c=none∨rowB a c=row∨∃b,rowB a c=some b∧w.heap.size≤b)
def WrPost (w:World) (B g:Nat) (all:List UInt8) (row:Option Nat) (e:Ending) (w':World):Prop:=
 ∃(a:Option Addr) (n c:Nat),e= .returned (.int .i64 0)∧HashAt w' B g all a n c∧HsFr w w' g row∧(rowB a c=none∨rowB a c=row∨∃b,rowB a c=some b∧w.heap.size≤b)
theorem hcs_no8 {h:Nat→BitVec 32} {a:Option Addr} {n c:Nat} {N:Int} {j:Nat} {x:UInt8}:hcs h (.slice a n c) (.int .u64 N) j≠bv x:=by
 unfold hcs bv wv
 by_cases h1:j<8
 ·rw [if_pos h1];simp
 ·rw [if_neg h1]
  by_cases h2:j=8
  ·rw [if_pos h2];simp
  ·rw [if_neg h2]
   by_cases h3:j=9
   ·rw [if_pos h3];simp
   ·rw [if_neg h3];simp
theorem hash_apart {w:World} {g b o:Nat} {h:Nat→BitVec 32} {a:Option Addr} {n c:Nat} {N:Int} {l:List UInt8} (hg:Blk w g (vA 74 (hcs h (.slice a n c) (.int .u64 N))) 270) (hb:BytesAt w (some ⟨b,o,none⟩) l) (hl:0<l.length):b≠g:=by
 rintro rfl
 obtain ⟨b',o',e,hc⟩:=hb 0 (by simpa using hl)
 cases e
 rw [hg.rule] at hc
 by_cases hj:o+0<74
 ·rw [vA_at _ hj] at hc
  simp only [Option.some.injEq,List.getElem_map] at hc
  exact hcs_no8 hc
 ·rw [vA_none _ (by omega)] at hc;cases hc
theorem BytesAt.hash_set {w:World} {g:Nat} {h:Nat→BitVec 32} {a:Option Addr} {n c:Nat} {N:Int} {ba:Option Addr} {l:List UInt8} (hb:BytesAt w ba l) (hg:Blk w g (vA 74 (hcs h (.slice a n c) (.int .u64 N))) 270) (i:Nat) (v:Value):BytesAt (w.setCell ⟨g,i,none⟩ v) ba l:=by
 intro j hj
 obtain ⟨b,o,rfl,hc⟩:=hb j hj
 have hne:=hash_apart hg hb (by simp at hj;omega)
 exact ⟨b,o,rfl,(World.cell?_of_block (a:=⟨b,o+j,none⟩) (heap_setCell_other w ⟨g,i,none⟩ b v hne)).trans hc⟩
theorem rowB_ne {w:World} {B g:Nat} {a:Option Addr} {n c:Nat} {vs:List Value} {cs:Array Value} (hm:Mid w B 5 a n c vs) (hg:Blk w g cs 270):rowB a c≠some g:=fun e=>by
 obtain ⟨_,_,cur,hcur⟩:=hm.lt e
 exact Blk.ne hcur hg (by decide) rfl
set_option maxHeartbeats 1000000 in
set_option maxRecDepth 100000 in
theorem write_any (B g:Nat) (l b:List UInt8) (a:Option Addr) (n c:Nat) (ba:Option Addr) (bn bc:Nat) (w:World) (hH:HashAt w B g l a n c) (hb:BytesAt w ba b) (hbn:b.length=bn) (hlt:l.length+bn<140737488355000) (hB:B≤w.heap.size):
  Calls Tryz.prog 185 #[.pointer (some ⟨g,0,none⟩),.slice ba bn bc] w (WrPost w B g (l++b) (rowB a c)):=by
 have hn:n+64*(l.length/64)=l.length:=by have:=hH.row.len;rw [←this];simp;omega
 have hc8:w.cell? ⟨g,8,none⟩=some (.slice a n c):=hH.hash.atV (by omega) (hcs_8 _ _ _)
 have hc9:w.cell? ⟨g,9,none⟩=some (.int .u64 (l.length:Int)):=hH.hash.atV (by omega) (hcs_9 _ _ _)
 have hfr:=hH.hash.free
 obtain ⟨L,hL⟩:∃L,L=l.length:=⟨_,rfl⟩
 obtain ⟨k0,hk0⟩:∃k,k=l.length/64:=⟨_,rfl⟩
 have hh:=hH.hash
 have hrow:=hH.row
 rw [←hk0] at hh hrow
 rw [←hL] at hc9 hlt hn hh hk0
 have hgl:=hh.lt
 have hset:Blk (w.setCell ⟨g,9,none⟩ (.int .u64 ((L:Int)+(bn:Int)))) g (vA 74 (hcs (stt l k0) (.slice a n c) (.int .u64 ((L:Int)+(bn:Int))))) 270:=(hh.setV (by omega) _).ofV fun j _=>hcs_set9 _ _ _ _ j
 have hrow9:=hrow.setCell hh (by decide) 9 (.int .u64 ((L:Int)+(bn:Int)))
 have hb9:=hb.hash_set hh 9 (.int .u64 ((L:Int)+(bn:Int)))
 have hs9:(w.setCell ⟨g,9,none⟩ (.int .u64 ((L:Int)+(bn:Int)))).heap.size=w.heap.size:=by simp
 have HLL:=Lib.hid hL
 have HN:=Lib.hid hn
 have HBN:=Lib.hid hbn
 have HK0:=Lib.hid hk0
 have HS9:=Lib.hid hs9
 have hnb:n≤L:=by omega
 clear hL hn hbn hk0 hs9
 go_enter Tryz.func185,Tryz.ntmps185
 go_wp2_with (at_builtin;refine wpList_append_mid rfl (.tmp 21) (.tmp 22) 22 rfl bytesT3 rfl hrow9 rfl hb9 (by rw [List.length_map];exact HBN.out) (bv_one _) (by unfold maxLen;omega) (by omega) (by rw [HS9.out];exact hB) ?_)
 intro a2 c2 w2 hm2 hg2 hr2
 have hfr2:HsFr w w2 g (rowB a c):=((HsFr.refl w g _).only (only_setCell (World.grownBy.refl _ _) 9 _)).grown hg2 (.inr (.inl rfl))
 have hh2:=hset.grown hg2 (rowB_ne hrow9 hset)
 have hr2':rowB a2 c2=none∨rowB a2 c2=rowB a c∨∃q,rowB a2 c2=some q∧w.heap.size≤q:= .inr hr2
 have hfz:=hh2.free
 have hcl:w2.cell? ⟨g,8,none⟩=some (.slice a n c):=hh2.atV (by omega) (hcs_8 _ _ _)
 clear hset hrow9 hb9 hg2 hr2 hH hh hrow hc8 hc9 hfr
 go_wp2_with fail
 clear hfz hcl
 have hlen:(l++b).length=L+bn:=by rw [List.length_append,HBN.out,←HLL.out]
 have hstart:HsI (w2.setCell ⟨g,8,none⟩ (.slice a2 (n+bn) c2)) B g (l++b) k0 a2 (n+bn) c2:=by
  have hk:=HK0.out
  have hL:=HLL.out
  refine ⟨(hh2.setV (by omega) _).ofV fun j _=> ?_,?_,by rw [hlen];omega⟩
  ·rw [hcs_set8,hlen]
   refine (hcs_eq (h':=stt (l++b) k0) (fun j hj=>(stt_more (b:=b) (by omega) j hj).symm) j).trans ?_
   rw [show ((L+bn:Nat):Int)=(L:Int)+(bn:Int) by omega]
  ·rw [List.drop_append_of_le_length (by omega),List.map_append]
   rw [←List.map_drop] at hm2
   exact hm2.setCell hh2 (by decide) 8 _
 have hfr3:=hfr2.only (only_setCell (World.grownBy.refl w2 _) 8 (.slice a2 (n+bn) c2))
 have hst:Wr1 w B g (l++b) (rowB a c) ((l++b).length/64-k0) (w2.setCell ⟨g,8,none⟩ (.slice a2 (n+bn) c2)):=by
  have hk:=HK0.out
  have hn:=HN.out
  exact ⟨k0,a2,n+bn,c2,by rw [hlen];omega,by rw [hlen,←hn,←hk];omega,hstart,hfr3,hr2'⟩
 clear hstart hfr3 hfr2 hh2 hm2 hr2'
 obtain ⟨row,hrw⟩:∃r,r=rowB a c:=⟨_,rfl⟩
 rw [←hrw] at hst
 have HRW:=Lib.hid hrw
 obtain ⟨all,hall⟩:∃q,q=l++b:=⟨_,rfl⟩
 rw [←hall] at hst hlen
 have HAL:=Lib.hid hall
 have hlen2:all.length<140737488355000:=by omega
 have HALL:=Lib.hid hlen
 clear hlen hrw hall HLL HN HBN HK0 HS9 hnb hlt
 obtain ⟨f0,hf0⟩:∃f,f=all.length/64-k0:=⟨_,rfl⟩
 rw [←hf0] at hst
 clear hf0
 go_loopg [31] f0 (fun f _ wr=>Wr1 w B g all row f wr)
 case atStart=>exact hst
 case round=>
  clear hst
  obtain ⟨i,a,n,c,hf,hni,hI,hfr,hr⟩:=hrel
  have hcl:wr.cell? ⟨g,8,none⟩=some (.slice a n c):=hI.hash.atV (by omega) (hcs_8 _ _ _)
  have hnc:=hI.row.le
  have hcm:=hI.row.max
  unfold maxLen at hcm
  have HF:=Lib.hid hf
  have HNI:=Lib.hid hni
  clear hf
  by_cases h64:64≤n
  ·have t1:decide ((64:Int)≤(n:Int))=true:=by simp;omega
   have hI1:(64:Int)≤(c:Int):=by omega
   have hI2:(64:Int)≤(n:Int):=by omega
   obtain ⟨r,o,hro⟩:∃r o,a=some ⟨r,o,none⟩:=by
    obtain ⟨r,o,_,h1,_⟩:=hI.row.row (by omega)
    exact ⟨r,o,h1⟩
   subst hro
   have hcut:∀W,(Instr.sliceAt 22 (.slice (some ⟨r,o,none⟩) n c) (some (.int .i64 64)) none none).run Tryz.prog W= .ok (.slice (cutA (some ⟨r,o,none⟩) c 64) (n-64) (c-64)) W:=run_cut_from Tryz.underlying22 u8Info _ n c 64 h64
   have HCUT:=Lib.hid hcut
   clear hcut hni
   have hread:BytesAt wr (some ⟨r,o,none⟩) ((all.drop (64*i)).take 64):=by
    have:=hI.row.read.take 64
    rwa [←List.map_take] at this
   have hml:((all.drop (64*i)).take 64).length=64:=by
    have:=hI.row.len
    rw [List.length_map] at this
    rw [List.length_take,this];omega
   have hrg:r≠g:=by
    have:=rowB_ne hI.row hI.hash
    rw [rowB_some (by omega)] at this
    simpa using this
   go_wp2_with fail
   refine (block_any g (stt all i) _ _ _ c _ wr hI.hash hread hml (by omega) (by unfold maxLen;omega) (fun b o e=>by cases e;exact hrg)).mono ?_
   rintro e w4 ⟨rfl,hh4,ho4⟩
   have hrow4:Mid w4 B 5 (some ⟨r,o,none⟩) n c ((all.drop (64*i)).map bv):=hI.row.keep fun q hq=>by
    rw [rowB_some (by omega)] at hq
    cases hq
    exact ho4.block r (hI.row.lt (rowB_some (by omega))).2.1 (by simpa using hrg)
   have hcl4:w4.cell? ⟨g,8,none⟩=some (.slice (some ⟨r,o,none⟩) n c):=hh4.atV (by omega) (hcs_8 _ _ _)
   have hfz4:=hh4.free
   have hfr4:=hfr.only ho4
   have hcut:=HCUT.out
   have hstt:∀j,j<8→cmp (stt all i) (wd ((all.drop (64*i)).take 64) 0) j=stt all (i+1) j:=fun j hj=>by
    rw [stt]
    exact cmp_eq (fun _ _=>rfl) (fun t ht=>wd_eq (fun q hq=>by
     unfold byt
     rw [Nat.zero_add,List.getD_eq_getElem?_getD,List.getD_eq_getElem?_getD,List.getElem?_take_of_lt hq,List.getElem?_drop]) ht) j hj
   have HST:=Lib.hid hstt
   clear hstt hcl hI hfr hread hml ho4
   go_wp2_with fail
   clear hcl4 hfz4 hcut
   go_roundg (gk-1)
   case rel=>
    have hf:=HF.out
    have hni:=HNI.out
    refine ⟨i+1,cutA (some ⟨r,o,none⟩) c 64,n-64,c-64,by omega,by omega,⟨?_,?_,hlen2⟩,hfr4.only (only_setCell (World.grownBy.refl w4 _) 8 _),?_⟩
    ·refine (hh4.setV (by omega) _).ofV fun j _=> ?_
     rw [hcs_set8]
     exact hcs_eq HST.out j
    ·have:=(hrow4.cut 64 h64).setCell hh4 (by decide) 8 (.slice (cutA (some ⟨r,o,none⟩) c 64) (n-64) (c-64))
     rw [←List.map_drop,List.drop_drop] at this
     exact this
    ·rcases rowB_cut (some ⟨r,o,none⟩) c 64 with h1|h1
     ·exact .inl h1
     ·rw [h1];exact hr
   case measure=>have hf:=HF.out;have hni:=HNI.out;omega
  ·have t1:decide ((64:Int)≤(n:Int))=false:=by simp;omega
   go_wp2_with fail
   go_ret
   have hi:i=all.length/64:=by omega
   rw [←HAL.out,←HRW.out]
   exact ⟨a,n,c,rfl,by unfold HashAt;rw [←hi];exact hI,hfr,hr⟩
theorem len64:Tryz.prog.arrayLen 268=64:=by kernel_rfl
theorem elem64:Tryz.prog.elem 268=196:=by kernel_rfl
theorem arr64:Tryz.prog.underlying 268=some (.array (Tryz.prog.arrayLen 268) (Tryz.prog.elem 268)):=by rw [len64,elem64];exact Tryz.underlying268
theorem all8 (b o:Nat) (W:World):(Instr.sliceAt 267 (.pointer (some ⟨b,o,none⟩)) none none none).run Tryz.prog W= .ok (.slice (some ⟨b,o,none⟩) 8 8) W:=by
 rw [run_sliceAt_array_all W _ _ arr8,elem8,sized_run u32Info,len8]
 simp [slicedAt,Addr.add_mid]
theorem all64 (b o:Nat) (W:World):(Instr.sliceAt 268 (.pointer (some ⟨b,o,none⟩)) none none none).run Tryz.prog W= .ok (.slice (some ⟨b,o,none⟩) 64 64) W:=by
 rw [run_sliceAt_array_all W _ _ arr64,elem64,sized_run u32Info,len64]
 simp [slicedAt,Addr.add_mid]
theorem hLit_vL:hVal.map wv=vL 8 fun j=>wv (hwd j):=rfl
theorem kLit_vL:kVal.map wv=vL 64 fun j=>wv (kwd j):=rfl
theorem roots_h (w:World):Calls Tryz.prog 195 #[.int .i64 8,.bool false] w fun e w'=>∃ad c,e= .returned (.slice (some ad) 8 c)∧RowAt w' (some ad) (vL 8 fun j=>wv (hwd j))∧Below w.heap.size w w':=
 (roots_any 8 false w (by omega)).mono fun e w' ⟨k,a,c,hk,he,ho,hb⟩=>by
  rw [rts_h hk,hLit_vL] at ho
  obtain ⟨b,o,rfl,_⟩:=ho.row 0 (by rw [vL_length];omega)
  exact ⟨_,c,he,ho.row,hb⟩
theorem roots_k (w:World):Calls Tryz.prog 195 #[.int .i64 64,.bool true] w fun e w'=>∃ad c,e= .returned (.slice (some ad) 64 c)∧RowAt w' (some ad) (vL 64 fun j=>wv (kwd j))∧Below w.heap.size w w':=
 (roots_any 64 true w (by omega)).mono fun e w' ⟨k,a,c,hk,he,ho,hb⟩=>by
  rw [rts_k hk,kLit_vL] at ho
  obtain ⟨b,o,rfl,_⟩:=ho.row 0 (by rw [vL_length];omega)
  exact ⟨_,c,he,ho.row,hb⟩
theorem RowAt.all {w:World} {ad:Addr} {vs:List Value} (h:RowAt w (some ad) vs):∀j v,vs[j]? =some v→w.cell? (ad.add j)=some v:=fun j v hv=>by
 obtain ⟨hj,rfl⟩:=List.getElem?_eq_some_iff.1 hv
 obtain ⟨b,o,e,hc⟩:=h j hj
 obtain rfl:=Option.some.inj e
 rw [Addr.add_mid];exact hc
theorem vL_one {n:Nat} {f:Nat→Value} (h:∀i,(f i).oneCell'=true):∀v∈vL n f,v.oneCell'=true:=fun v hv=>by
 obtain ⟨i,_,rfl⟩:=List.mem_map.1 hv
 exact h i
theorem hcs_one (h:Nat→BitVec 32) (a:Option Addr) (n c:Nat) {N:Int} (i:Nat):(hcs h (.slice a n c) (.int .u64 N) i).oneCell'=true:=by
 unfold hcs
 by_cases h1:i<8
 ·rw [if_pos h1];rfl
 ·rw [if_neg h1]
  by_cases h2:i=8
  ·rw [if_pos h2];rfl
  ·rw [if_neg h2]
   by_cases h3:i=9
   ·rw [if_pos h3];rfl
   ·rw [if_neg h3];rfl
set_option maxHeartbeats 1000000 in
set_option maxRecDepth 100000 in
theorem reset_any (g:Nat) (f:Nat→Value) (w:World) (hg:Blk w g (vA 74 f) 270) (hf:∀j,j<64→f (10+j)=wv (kwd j)):
  Calls Tryz.prog 196 #[.pointer (some ⟨g,0,none⟩)] w fun e w'=>e= .returned (.tuple #[])∧Blk w' g (vA 74 (hcs hwd (.slice none 0 0) (.int .u64 0))) 270∧w.grownBy w' (some g):=by
 have HF:=Lib.hid hf
 clear hf
 have q1:=all8 g 0
 go_enter Tryz.func196,Tryz.ntmps196
 go_wp2_with fail
 refine wp_region_treeB g (.step 0 (.step 1 (.step 2 (.step 3 (.step 4 (.step 5 .done)))))) (by kernel_rfl) (by kernel_rfl) (fun c a d v w h=>by cases d<;>exact h) ?_
 repeat (first|(refine tree_skip rfl (by rfl) ?_;simp only [Act.put,List.setIfInBounds_toArray,List.set])|(refine tree_quiet (v:= ?_) rfl rfl (by rfl) ?_ ?_;rotate_left;(intro W hW;go_simp);(try with_reducible rfl);simp only [Act.put,List.setIfInBounds_toArray,List.set]))
 refine tree_loud rfl rfl (by rfl) (fun K hK=> ?_);go_wp2_with fail
 refine (roots_h _).mono ?_
 rintro e w1 ⟨ad,c,rfl,hrow,hb1⟩
 go_wp2_with fail
 refine hK _ _ (But.of hb1) ?_
 clear hK K q1
 have hg1:Blk w1 g (vA 74 f) 270:=hg.drew.old hb1
 have ho1:w.grownBy w1 (some g):=only_then (only_drew (World.grownBy.refl w _)) hb1
 refine tree_loud rfl rfl (by rfl) (fun K hK=> ?_)
 refine wp_copy_row (.tmp 7) (.tmp 8) 271 271 rfl Tryz.underlying271 u32Info rfl rfl hg1 (cs:=vL 8 fun j=>wv (hwd j)) (by rw [vL_length];rfl) hrow.all (by rw [vL_length,vA_size];omega) (vL_one fun _=>rfl) ?_
 refine hK _ _ (But.setRow _ _) ?_
 clear hK K
 refine tree_done ?_
 rw [show (vL 8 fun j=>wv (hwd j)).toArray=vA 8 fun j=>wv (hwd j) from rfl,vA_splice _ _ (by omega)]
 refine g_forget (fun W0=>Blk W0 g (vA 74 fun j=>if 0≤j∧j<0+8 then wv (hwd (j-0)) else f j) 270∧w.grownBy W0 (some g)) ⟨hg1.setRow _,only_setRow ho1 _⟩ ?_
 clear hg hg1 ho1 hb1 hrow
 rintro w2 ⟨hg,ho⟩
 have c8:w2.cell? ⟨g,8,none⟩=some (f 8):=hg.atV (by omega) (if_neg (by omega))
 have c9:w2.cell? ⟨g,9,none⟩=some (f 9):=hg.atV (by omega) (if_neg (by omega))
 have hfz:=hg.free
 go_wp2_with fail
 clear c8 c9 hfz
 go_end0
 refine ⟨rfl,?_,only_setCell (only_setCell ho 8 _) 9 _⟩
 refine ((hg.setV (by omega) _).setV (by omega) _).ofV fun j hj=> ?_
 unfold hcs
 by_cases h9:j=9
 ·subst h9;rfl
 ·rw [if_neg h9]
  by_cases h8:j=8
  ·subst h8;rfl
  ·rw [if_neg h8]
   by_cases h7:j<8
   ·rw [if_pos ⟨by omega,by omega⟩,if_pos h7];rfl
   ·rw [if_neg (by omega),if_neg h7,if_neg h8,if_neg h9]
    have:=HF.out (j-10) (by omega)
    rwa [show 10+(j-10)=j by omega] at this
def h0cells (j:Nat):Value:=if j<8 then .int .u32 0 else if j=8 then .slice none 0 0 else if j=9 then .int .u64 0 else .int .u32 0
theorem hash0:Tryz.prog.built 270 []=some (vA 74 h0cells):=by kernel_rfl
def NewPost (w:World) (e:Ending) (w':World):Prop:=
 ∃g,e= .returned (.pointer (some ⟨g,0,none⟩))∧w.heap.size≤g∧Blk w' g (vA 74 (hcs hwd (.slice none 0 0) (.int .u64 0))) 270∧Below w.heap.size w w'
theorem HashAt.nil {w:World} {g:Nat} (h:Blk w g (vA 74 (hcs hwd (.slice none 0 0) (.int .u64 0))) 270) (B:Nat):HashAt w B g [] none 0 0:=⟨h,Mid.nil' _ _ _,by simp⟩
set_option maxHeartbeats 1000000 in
set_option maxRecDepth 100000 in
theorem shnew_any (w:World):Calls Tryz.prog 183 #[] w (NewPost w):=by
 obtain ⟨g,hg⟩:∃g,g=w.heap.size:=⟨_,rfl⟩
 have hB:=Blk.new w (vA 74 h0cells) 270
 rw [←hg] at hB
 have HG:=Lib.hid hg
 have c0:(Tryz.prog.built 270 []).getD #[]=vA 74 h0cells:=by rw [hash0];rfl
 have HC:=Lib.hid c0
 clear hg c0
 go_enter Tryz.func183,Tryz.ntmps183
 go_wp2_with (refine wpList_build rfl 270 #[] rfl (by simp [hash0]) ?_)
 rw [HC.out,←HG.out]
 have hb0:Below g w (w.alloc (.cells (vA 74 h0cells) 270)):=(Below.refl _ _).alloc (by rw [HG.out];exact Nat.le_refl _) _
 refine wp_forget (fun W0=>Blk W0 g (vA 74 h0cells) 270∧Below g w W0) ⟨hB,hb0⟩ ?_
 clear hB hb0
 rintro w0 ⟨hB,hb⟩
 have q1:=all64 g 10
 refine wp_region_treeB g (.step 0 (.step 1 (.step 2 (.step 3 (.step 4 (.step 5 .done)))))) (by kernel_rfl) (by kernel_rfl) (fun c a d v w h=>by cases d<;>exact h) ?_
 repeat (first|(refine tree_skip rfl (by rfl) ?_;simp only [Act.put,List.setIfInBounds_toArray,List.set])|(refine tree_quiet (v:= ?_) rfl rfl (by rfl) ?_ ?_;rotate_left;(intro W hW;go_simp);(try with_reducible rfl);simp only [Act.put,List.setIfInBounds_toArray,List.set]))
 refine tree_loud rfl rfl (by rfl) (fun K hK=> ?_);go_wp2_with fail
 refine (roots_k _).mono ?_
 rintro e w1 ⟨ad,c,rfl,hrow,hb1⟩
 go_wp2_with fail
 refine hK _ _ (But.of hb1) ?_
 clear hK K q1
 have hg1:Blk w1 g (vA 74 h0cells) 270:=hB.drew.old hb1
 have hb01:Below g w w1:=hb.drew.trans (hb1.mono (by have:=hB.lt;show g≤w0.heap.size;omega))
 refine tree_loud rfl rfl (by rfl) (fun K hK=> ?_)
 refine wp_copy_row (.tmp 7) (.tmp 8) 271 271 rfl Tryz.underlying271 u32Info rfl rfl hg1 (cs:=vL 64 fun j=>wv (kwd j)) (by rw [vL_length];rfl) hrow.all (by rw [vL_length,vA_size];omega) (vL_one fun _=>rfl) ?_
 refine hK _ _ (But.setRow _ _) ?_
 clear hK K
 refine tree_done ?_
 rw [show (vL 64 fun j=>wv (kwd j)).toArray=vA 64 fun j=>wv (kwd j) from rfl,vA_splice _ _ (by omega)]
 refine g_forget (fun W0=>Blk W0 g (vA 74 fun j=>if 10≤j∧j<10+64 then wv (kwd (j-10)) else h0cells j) 270∧Below g w W0) ⟨hg1.setRow _,below_setRow hb01 (Nat.le_refl _) _⟩ ?_
 clear hB hg1 hb hb1 hb01 hrow
 rintro w2 ⟨hB,hb⟩
 go_wp2_with fail
 refine (reset_any g _ _ hB (fun j hj=>by rw [if_pos ⟨by omega,by omega⟩,Nat.add_sub_cancel_left])).mono ?_
 rintro e w3 ⟨rfl,hB3,ho3⟩
 go_wp2_with fail
 go_ret
 refine ⟨g,rfl,by rw [HG.out];exact Nat.le_refl _,hB3,?_⟩
 rw [←HG.out]
 exact below_only hb (by have:=hB.lt;omega) ho3 (Nat.le_refl _)
def CopyPost (w:World) (l:List UInt8) (n:Nat) (e:Ending) (w':World):Prop:=
 ∃g a c,e= .returned (.pointer (some ⟨g,0,none⟩))∧w.heap.size≤g∧HashAt w' w.heap.size g l a n c∧Below w.heap.size w w'
set_option maxHeartbeats 1000000 in
set_option maxRecDepth 100000 in
theorem copy_any (B g:Nat) (l:List UInt8) (a:Option Addr) (n c:Nat) (w:World) (hH:HashAt w B g l a n c):
  Calls Tryz.prog 187 #[.pointer (some ⟨g,0,none⟩)] w (CopyPost w l n):=by
 have hh:=hH.hash
 have hrow:=hH.row
 have hlt:=hH.lt
 have hnl:n≤l.length:=by have:=hrow.len;rw [←this];simp
 have hzr:=zero_run (show (Tryz.prog.info? 270).bind (·.zero)=some (.agg (vA 74 h0cells)) by kernel_rfl)
 have HH:=Lib.hid hH
 clear hH
 go_enter Tryz.func187,Tryz.ntmps187
 go_upto_region 4 with (first|refine wpList_load_blk rfl 270 hashT _ rfl rfl hh (vA_size _ _) ?_|refine wpList_store_blk rfl 270 hashT (.tmp 3) _ rfl rfl rfl (Blk.new _ _ _) (vA_size _ _) (vA_size _ _) (vA_one fun i _=>hcs_one _ _ _ _ i) ?_)
 clear hzr
 obtain ⟨G,hG⟩:∃G,G=w.heap.size:=⟨_,rfl⟩
 have hB0:=Blk.new w (vA 74 h0cells) 270
 rw [←hG] at hB0⊢
 have HG:=Lib.hid hG
 have hgl:g<G:=by rw [hG];exact hh.lt
 have hb0:Below G w ((w.alloc (.cells (vA 74 h0cells) 270)).setRow G (vA 74 (hcs (stt l (l.length/64)) (.slice a n c) (.int .u64 (l.length:Int))))):=below_setRow ((Below.refl _ _).alloc (by omega) _) (Nat.le_refl _) _
 have hs0:((w.alloc (.cells (vA 74 h0cells) 270)).setRow G (vA 74 (hcs (stt l (l.length/64)) (.slice a n c) (.int .u64 (l.length:Int))))).heap.size=G+1:=by simp [World.setRow,←hG]
 refine wp_forget (fun W0=>Blk W0 G (vA 74 (hcs (stt l (l.length/64)) (.slice a n c) (.int .u64 (l.length:Int)))) 270∧Below G w W0∧W0.heap.size=G+1) ⟨hB0.setRow _,hb0,hs0⟩ ?_
 clear hB0 hb0 hs0 hh hG
 rintro w1 ⟨hB,hb,hs⟩
 have hold:Below w.heap.size w w1:=by rw [←HG.out];exact hb
 have hread:=RowAt.below hrow.read hold
 have hc8:w1.cell? ⟨g,8,none⟩=some (.slice a n c):=(HH.out.hash.old hold).atV (by omega) (hcs_8 _ _ _)
 have hgs:g<w1.heap.size:=by omega
 have HS:=Lib.hid hs
 have hmid:Mid w1 G 5 (some ⟨w1.heap.size,0,none⟩) 0 0 []:=⟨rfl,Nat.le_refl _,by unfold maxLen;omega,(fun h=>by cases h),fun h=>by omega⟩
 clear hs hold
 go_wp2_with (at_builtin;refine wpList_append_mid rfl (.tmp 9) (.tmp 13) 22 rfl bytesT3 rfl (hmid.alloc _) rfl (hread.alloc _) (by rw [hrow.len]) (by intro u hu;obtain ⟨_,_,rfl⟩:=List.mem_map.1 hu;rfl) (by unfold maxLen;omega) (by omega) (by simp;have:=HS.out;omega) ?_)
 intro a2 c2 w2 hm2 hg2 hr2
 have hrn:rowB (some (⟨w1.heap.size,0,none⟩:Addr)) 0=none:=rfl
 rw [hrn] at hg2 hr2
 have hB2:=(hB.alloc (.cells #[] 5)).grown hg2 (by simp)
 have hb2:Below G w w2:=(hb.alloc (by have:=HS.out;omega) _).grown hg2 (by simp;have:=HS.out;omega) (by simp)
 have hc8':w2.cell? ⟨G,8,none⟩=some (.slice a n c):=hB2.atV (by omega) (hcs_8 _ _ _)
 have hfz:=hB2.free
 clear hc8
 go_wp2_with fail
 clear hc8' hfz
 go_ret
 refine ⟨G,a2,c2,by simp,by rw [←HG.out];exact Nat.le_refl _,⟨?_,?_,hlt⟩,?_⟩
 ·refine (hB2.setV (by omega) _).ofV fun j _=> ?_
  rw [hcs_set8]
 ·rw [←HG.out]
  have:=hm2.setCell hB2 (by decide) 8 (.slice a2 (0+n) c2)
  simpa using this
 ·rw [←HG.out]
  exact hb2.setCell (Nat.le_refl _) _
end
end Go.Proofs.YtioigihakjlopaaGreat

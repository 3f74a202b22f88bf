/- Texts put together and cut to what is used: SealMake, SealSeal, SealOpen. -/
import Derived.Test.YtioigihakjlopaaGreatVB23
import Derived.Lib.BufferMore
namespace Go.Proofs.YtioigihakjlopaaGreat
set_option linter.unusedVariables false
set_option linter.unusedSimpArgs false
section
open Go.RowKit
theorem exec_build2 {P:Program} {w:World} {o:Oper} {f:Operand→Value} (t:TypeId) (x y:Operand) (ho:o.op= .build t #[(0,x),(1,y)]) {u v:Value} (hu:f x=u) (hv:f y=v) {cells:Array Value} (h:P.built t [(0,u),(1,v)]=some cells):
  (execOp f o).run P w= .ok (.value (.agg cells)) w:=by
 subst hu hv
 unfold execOp
 simp only [ho,Sem.run_bind,run_build w t #[(0,f x),(1,f y)] cells h,Result.andThen_ok,Sem.run_pure,List.map_toArray,List.map_cons,List.map_nil]
theorem built_keys (c:Nat→BitVec 8) (f:Nat→Value):Tryz.prog.built 172 [(0,.agg (fA 16 c)),(1,.agg (vA 32 f))]=some (vA 48 fun i=>if i<16 then fv (c i) else f (i-16)):=by kernel_rfl
theorem built_box (h:Nat→Value) (g:Int):Tryz.prog.built 174 [(0,.agg (vA 48 h)),(1,.int .u64 g)]=some (vA 49 fun i=>if i<48 then h i else .int .u64 g):=by kernel_rfl
def SnP (w:World) (m:List UInt8) (g:Nat) (e:Ending) (w':World):Prop:=∃B,e= .returned (.pointer (some ⟨B,0,none⟩))∧w.heap.size≤B∧BoxAt w' B m g∧Below w.heap.size w w'
set_option maxHeartbeats 2000000 in
set_option maxRecDepth 100000 in
theorem snew_any (ma:Option Addr) (mn mc:Nat) (m:List UInt8) (g:Nat) (w:World) (hm:BytesAt w ma m) (hml:m.length=mn) (hmm:mn<140737488352000) (hg:g<18446744073709551616):
  Calls Tryz.prog 110 #[.slice ma mn mc,.int .u64 (g:Int)] w (SnP w m g):=by
 have HL:=Lib.hid hml
 obtain ⟨H,hH⟩:∃H,H=w.heap.size:=⟨_,rfl⟩
 have HH:=Lib.hid hH
 have hM0:=(Blk.new w #[.slice ma mn mc] 22).alloc (.cells #[.int .u64 (g:Int)] 105)
 have hG0:=Blk.new (w.alloc (.cells #[.slice ma mn mc] 22)) #[.int .u64 (g:Int)] 105
 have hw0:=((Below.refl w.heap.size w).alloc (Nat.le_refl _) (.cells #[.slice ma mn mc] 22)).alloc (by simp) (.cells #[.int .u64 (g:Int)] 105)
 have hm0:=(hm.alloc (.cells #[.slice ma mn mc] 22)).alloc (.cells #[.int .u64 (g:Int)] 105)
 simp only [World.size_alloc] at hG0
 rw [←hH] at hM0 hG0 hw0
 have hnk:=fun (s:ByteArray) (W:World) hs hM hG hm=>newkey_any s H (H+1) ma mn mc m g W hs hM hG hm HL.out hmm hg
 have HNK:=Lib.hid hnk
 clear hml hH hm hnk
 go_enter Tryz.func110,Tryz.ntmps110
 go_upto_region 1 with fail
 rw [←HH.out]
 refine wp_forget (fun W0=>Blk W0 H #[.slice ma mn mc] 22∧Blk W0 (H+1) #[.int .u64 (g:Int)] 105∧BytesAt W0 ma m∧Below H w W0) ⟨hM0,hG0,hm0,hw0⟩ ?_
 clear hM0 hG0 hm0 hw0
 rintro w1 ⟨hM,hG,hm,hw⟩
 have hlt:=hG.lt
 go_wp2_with fail
 refine (HNK.out (strOf nCipher) _ (by decide) hM hG hm).mono ?_
 unfold McOut
 rintro e w2 ⟨rfl,hb2⟩
 have hM2:=hM.old hb2
 have hG2:=hG.old hb2
 have hm2:=hm.below hb2
 have hw2:=hw.trans (hb2.mono (by omega))
 have hs2:=hb2.size
 clear hM hG hm hw hb2
 obtain ⟨X,hX⟩:∃X,X=mcA m (keyb (strL (strOf nCipher)) (strOf nCipher).size g):=⟨_,rfl⟩
 have hXs:X.size=32:=by rw [hX];exact vA_size _ _
 have hX1:X.toList.all (·.oneCell')=true:=by rw [hX];exact vA_one fun _ _=>rfl
 have hXc:∀j (hj:j<(fL 16 (ckB m g)).length),X[j]? =some (fL 16 (ckB m g))[j]:=by
  intro j hj
  have hj':j<16:=by simpa [fL] using hj
  rw [hX]
  have:mcA m (keyb (strL (strOf nCipher)) (strOf nCipher).size g)=vA 32 fun i=>bv (ckey m g i):=rfl
  rw [this,vA_at _ (by omega)]
  simp [fL,fv]
  rfl
 rw [←hX]
 clear hX
 go_upto_region 3 with (refine wpList_store_blk rfl 170 agg32 (.tmp 6) _ (cells:=X) rfl rfl rfl (Blk.new _ _ _) hXs rfl hX1 ?_)
 obtain ⟨C,hC⟩:∃C,C=w2.heap.size:=⟨_,rfl⟩
 have hC0:=Blk.new w2 (vA 32 fun _=> .int .u8 0) 170
 have hbb:=below_setRow ((Below.refl w2.heap.size w2).alloc (Nat.le_refl _) (.cells (vA 32 fun _=> .int .u8 0) 170)) (Nat.le_of_eq hC.symm) X
 rw [←hC] at hC0⊢
 refine wp_forget (fun W0=>Blk W0 H #[.slice ma mn mc] 22∧Blk W0 (H+1) #[.int .u64 (g:Int)] 105∧Blk W0 C X 170∧BytesAt W0 ma m∧Below H w W0) ⟨hM2.old hbb,hG2.old hbb,hC0.setRow _,hm2.below hbb,hw2.trans (hbb.mono (by omega))⟩ ?_
 clear hM2 hG2 hm2 hw2 hs2 hC0 hbb hC hlt
 rintro w3 ⟨hM,hG,hC,hm,hw⟩
 have hlt:=hG.lt
 have ar:∀p c W,(Instr.arrayAt 169 (.slice (some p) 16 c)).run Tryz.prog W= .ok (.pointer (some p)) W:=fun p c W=>by
  simp [Instr.arrayAt,run_underlying Tryz.underlying169]
 have C1:Hid (∀W,Old w3.drew W→W.cell? ⟨H+1,0,none⟩=some (.int .u64 (g:Int))):=Lib.hid fun W hW=>(Blk.old (w:=w3.drew) hG hW).cell rfl
 refine wp_region_old (0::1::2::3::6::4::5::7::8::9::[]) (by kernel_rfl) (by kernel_rfl) (fun c a d v w h=>by cases d<;>exact h) ?_
 repeat (first|(refine lex_skip rfl (by rfl) ?_;simp only [Act.put,List.setIfInBounds_toArray,List.set])|(refine lex_quiet (v:= ?_) rfl rfl (by rfl) ?_ ?_;rotate_left;(intro W hW;go_simp);(try with_reducible rfl);simp only [Act.put,List.setIfInBounds_toArray,List.set]))
 refine lex_quiet (v:= .agg (fA 16 (ckB m g))) rfl rfl (by rfl) (fun W hW=>exec_load_as 169 agg16 _ rfl rfl rfl (fun j hj=>by rw [Nat.zero_add,(Blk.old (w:=w3.drew) hC hW).rule];exact hXc j hj) (fL_length _ _)) ?_
 simp only [Act.put,List.setIfInBounds_toArray,List.set]
 repeat (first|(refine lex_skip rfl (by rfl) ?_;simp only [Act.put,List.setIfInBounds_toArray,List.set])|(refine lex_quiet (v:= ?_) rfl rfl (by rfl) ?_ ?_;rotate_left;(intro W hW;go_simp);(try with_reducible rfl);simp only [Act.put,List.setIfInBounds_toArray,List.set]))
 refine lex_quiet (v:= .int .u64 (g:Int)) rfl rfl (by rfl) (fun W hW=>by have:=C1.out W hW;go_simp) ?_
 simp only [Act.put,List.setIfInBounds_toArray,List.set]
 refine lex_loud rfl rfl (by rfl) (fun K hK=> ?_);go_wp2_with fail
 refine (HNK.out (strOf nTag) _ (by decide) hM.drew hG.drew hm.drew).mono ?_
 unfold McOut
 rintro e w4 ⟨rfl,hb4⟩
 go_wp2_with fail
 refine hK _ _ hb4 ?_
 clear hK K
 rw [show mcA m (keyb (strL (strOf nTag)) (strOf nTag).size g)=vA 32 fun i=>bv (tkey m g i) from rfl]
 refine lex_quiet (v:= .agg (vA 48 fun i=>if i<16 then fv (ckB m g i) else bv (tkey m g (i-16)))) rfl rfl (by rfl) (fun W hW=>exec_build2 172 (.tmp 12) (.tmp 14) rfl rfl rfl (built_keys (ckB m g) (fun i=>bv (tkey m g i)))) ?_
 simp only [Act.put,List.setIfInBounds_toArray,List.set]
 refine lex_quiet (v:= .agg (vA 49 fun i=>if i<48 then (if i<16 then fv (ckB m g i) else bv (tkey m g (i-16))) else .int .u64 (g:Int))) rfl rfl (by rfl) (fun W hW=>exec_build2 174 (.tmp 15) (.tmp 16) rfl rfl rfl (built_box (fun i=>if i<16 then fv (ckB m g i) else bv (tkey m g (i-16))) (g:Int))) ?_
 simp only [Act.put,List.setIfInBounds_toArray,List.set]
 have hbF:(vA 49 fun i=>if i<48 then (if i<16 then fv (ckB m g i) else bv (tkey m g (i-16))) else .int .u64 (g:Int))=vA 49 (boxF m g):=by
  refine vA_eq fun i hi=> ?_
  unfold boxF
  by_cases e1:i<16
  ·rw [if_pos (by omega),if_pos e1,if_pos e1];rfl
  ·by_cases e2:i<48
   ·rw [if_pos e2,if_neg e1,if_neg e1,if_pos e2]
   ·rw [if_neg e2,if_neg e1,if_neg e2]
 rw [hbF]
 clear hbF
 obtain ⟨Z,hZ⟩:∃Z,Z=vA 49 (boxF m g):=⟨_,rfl⟩
 rw [←hZ]
 have HZ:=Lib.hid hZ
 clear hZ
 refine lex_loud rfl rfl (by rfl) (fun K hK=> ?_);go_wp2_with fail
 have hb34:Below w3.heap.size w3 w4:=⟨hb4.os,hb4.tape,hb4.output,hb4.size,hb4.block⟩
 refine hK _ _ ((Below.refl _ _).alloc (Nat.le_refl _) _) ?_
 clear hK K
 repeat (first|(refine lex_skip rfl (by rfl) ?_;simp only [Act.put,List.setIfInBounds_toArray,List.set])|(refine lex_quiet (v:= ?_) rfl rfl (by rfl) ?_ ?_;rotate_left;(intro W hW;go_simp);(try with_reducible rfl);simp only [Act.put,List.setIfInBounds_toArray,List.set]))
 refine lex_nil ?_
 have hw4:=hw.trans (hb34.mono (by omega))
 have hs4:=hb34.size
 have hN:=Blk.new w4 Z 174
 have hw5:=hw4.alloc (show H≤w4.heap.size by omega) (.cells Z 174)
 go_wp2_with fail
 go_ret
 refine ⟨w4.heap.size,rfl,by rw [←HH.out];omega,?_,HH.out▸hw5⟩
 unfold BoxAt
 rw [←HZ.out]
 exact hN
theorem sealL_length (m:List UInt8) (g n:Nat) (b:List UInt8):(sealL m g n b).length=b.length+32:=by rw [sealL,List.length_append,stm_length,dgl_length]
def SlP (w:World) (m:List UInt8) (g n:Nat) (b:List UInt8) (e:Ending) (w':World):Prop:=
 ∃(a:Option Addr) (c:Nat),e= .returned (.tuple #[.slice a (b.length+32) c,.int .i64 0])∧Own w' w.heap.size 5 1 a (b.length+32) c ((sealL m g n b).map bv)∧Below w.heap.size w w'
theorem seal_long (B:Nat) (n:Nat) (ba:Option Addr) (bn bc:Nat) (w:World) (hbn:65504<bn) (hbm:bn≤maxLen):
  Calls Tryz.prog 54 #[.pointer (some ⟨B,0,none⟩),.int .u64 (n:Int),.slice ba bn bc] w fun e w'=>e= .returned (.tuple #[.slice none 0 0,.int .i64 3])∧w=w':=by
 unfold maxLen at hbm
 have hz:=fun W=>size_any (bn:Int) (by omega) (by omega) W
 rw [show sizeI (bn:Int)=0 by rw [sizeI,if_pos (.inr (by omega))]] at hz
 have HZ:=Lib.hid hz
 clear hz
 go_enter Tryz.func54,Tryz.ntmps54
 go_wp2_with fail
 refine (HZ.out _).mono ?_
 rintro e w' ⟨rfl,rfl⟩
 go_wp2_with fail
 go_ret2
 exact ⟨rfl,rfl⟩
set_option maxHeartbeats 2000000 in
set_option maxRecDepth 100000 in
theorem seal_any (B:Nat) (m:List UInt8) (g n:Nat) (ba:Option Addr) (bn bc:Nat) (b:List UInt8) (w:World) (hB:BoxAt w B m g) (hb:BytesAt w ba b) (hbl:b.length=bn) (hbn:bn≤65504) (hg:g<18446744073709551616) (hn:n<18446744073709551616):
  Calls Tryz.prog 54 #[.pointer (some ⟨B,0,none⟩),.int .u64 (n:Int),.slice ba bn bc] w (SlP w m g n b):=by
 have HL:=Lib.hid hbl
 obtain ⟨H,hH⟩:∃H,H=w.heap.size:=⟨_,rfl⟩
 have HH:=Lib.hid hH
 have hz:=fun W=>size_any (bn:Int) (by omega) (by omega) W
 rw [show sizeI (bn:Int)=(bn:Int)+32 by rw [sizeI,if_neg (by omega)]] at hz
 have HZ:=Lib.hid hz
 have z1:((bn:Int)+32==0)=false:=by simp;omega
 clear hbl hH hz
 go_enter Tryz.func54,Tryz.ntmps54
 go_wp2_with fail
 refine (HZ.out _).mono ?_
 rintro e w' ⟨rfl,rfl⟩
 go_upto_region 5 with fail
 have hBd:BoxAt w.drew B m g:=hB
 refine wp_region_old (0::1::2::3::4::5::6::8::7::9::10::11::12::13::14::[]) (by kernel_rfl) (by kernel_rfl) (fun c a d v w h=>by cases d<;>exact h) ?_
 repeat (first|(refine lex_skip rfl (by rfl) ?_;simp only [Act.put,List.setIfInBounds_toArray,List.set])|(refine lex_quiet (v:= ?_) rfl rfl (by rfl) ?_ ?_;rotate_left;(intro W hW;go_simp);(try with_reducible rfl);simp only [Act.put,List.setIfInBounds_toArray,List.set]))
 refine lex_quiet (v:= .agg (fA 16 (ckB m g))) rfl rfl (by rfl) (fun W hW=>exec_load_as 169 agg16 _ rfl rfl rfl (BoxAt.old hBd hW).cipher (fL_length _ _)) ?_
 simp only [Act.put,List.setIfInBounds_toArray,List.set]
 repeat (first|(refine lex_skip rfl (by rfl) ?_;simp only [Act.put,List.setIfInBounds_toArray,List.set])|(refine lex_quiet (v:= ?_) rfl rfl (by rfl) ?_ ?_;rotate_left;(intro W hW;go_simp);(try with_reducible rfl);simp only [Act.put,List.setIfInBounds_toArray,List.set]))
 refine lex_loud rfl rfl (by rfl) (fun K hK=> ?_);go_wp2_with fail
 refine (nonce_any B m g n _ hBd hg hn).mono ?_
 unfold NonP
 rintro e w2 ⟨rfl,hb2⟩
 go_wp2_with fail
 refine hK _ _ hb2 ?_
 clear hK K
 have hw2:Below w.heap.size w w2:=⟨hb2.os,hb2.tape,hb2.output,hb2.size,hb2.block⟩
 refine lex_loud rfl rfl (by rfl) (fun K hK=> ?_);go_wp2_with fail
 refine (stream_any (ckB m g) (nonB g n) ba bn bc b _ (hb.below hw2) HL.out (by omega)).mono ?_
 rintro e w3 ⟨a3,c3,rfl,ho3,hb3⟩
 go_wp2_with fail
 refine hK _ _ hb3 ?_
 clear hK K
 have hw3:=below_step hw2 hb3
 have ho3':=ho3.lower hw2.size
 clear hb2 hw2 hb3 ho3
 repeat (first|(refine lex_skip rfl (by rfl) ?_;simp only [Act.put,List.setIfInBounds_toArray,List.set])|(refine lex_quiet (v:= ?_) rfl rfl (by rfl) ?_ ?_;rotate_left;(intro W hW;go_simp);(try with_reducible rfl);simp only [Act.put,List.setIfInBounds_toArray,List.set]))
 refine lex_nil ?_
 obtain ⟨cl,hcl⟩:∃cl,cl=stm (ckB m g) (nonB g n) b:=⟨_,rfl⟩
 rw [←hcl] at ho3'
 have hcn:cl.length=bn:=by rw [hcl,stm_length,HL.out]
 have HCN:=Lib.hid hcn
 have HCL:=Lib.hid hcl
 clear hcn hcl
 have hB3:=hB.old hw3
 go_wp2_with fail
 refine (mark_any B m g n a3 bn c3 cl _ hB3 ho3'.row HCN.out (by omega) hg hn).mono ?_
 unfold MarP
 rintro e w4 ⟨rfl,hb4⟩
 have ho4:=ho3'.old hb4
 have hw4:=below_step hw3 hb4
 have hs4:=hw4.size
 clear ho3' hw3 hB3 hb4
 go_upto_region 9 with (refine wpList_store_blk rfl 170 agg32 (.tmp 10) _ (cells:=dgA (markL m g n cl)) rfl rfl rfl (Blk.new _ _ _) (vA_size _ _) rfl (vA_one fun _ _=>rfl) ?_)
 obtain ⟨G,hG⟩:∃G,G=w4.heap.size:=⟨_,rfl⟩
 have hG0:=Blk.new w4 (vA 32 fun _=> .int .u8 0) 170
 have hbb:=below_setRow ((Below.refl w4.heap.size w4).alloc (Nat.le_refl _) (.cells (vA 32 fun _=> .int .u8 0) 170)) (Nat.le_of_eq hG.symm) (dgA (markL m g n cl))
 rw [←hG] at hG0⊢
 refine wp_forget (fun W0=>Own W0 w.heap.size 5 1 a3 bn c3 (cl.map bv)∧Blk W0 G (dgA (markL m g n cl)) 170∧Below w.heap.size w W0) ⟨ho4.old hbb,hG0.setRow _,hw4.trans (hbb.mono hs4)⟩ ?_
 clear ho4 hw4 hs4 hG0 hbb hG
 rintro w5 ⟨ho,hG,hw⟩
 have q2:=all32b G
 have hs5:=hw.size
 go_wp2_with (at_builtin;refine wpList_append_row rfl (.tmp 39) (.tmp 40) 22 rfl bytesT3 rfl ho rfl (dgl_at hG) (by rw [List.length_map,dgl_length]) (bv_one _) (by unfold maxLen;omega) (by omega) hs5 ?_)
 intro a6 c6 w6 ho6 hg6
 have hw6:=ho.grown hw (Nat.le_refl _) hg6 hs5
 clear hg6 ho hG hw q2 hs5
 go_wp2_with fail
 go_ret2
 refine ⟨a6,c6,by rw [HL.out];rfl,?_,hw6⟩
 have e:(sealL m g n b).map bv=cl.map bv++(dgl (markL m g n cl)).map bv:=by rw [sealL,←HCL.out,List.map_append]
 rw [e,HL.out]
 simpa using ho6
def openL (m:List UInt8) (g n:Nat) (b:List UInt8):List UInt8×Int:=
 if 32≤b.length∧b.length≤65536∧b.drop (b.length-32)=dgl (markL m g n (b.take (b.length-32))) then (stm (ckB m g) (nonB g n) (b.take (b.length-32)),0) else ([],60)
def OpQ (w:World) (m:List UInt8) (g n:Nat) (b:List UInt8) (e:Ending) (w':World):Prop:=
 ∃(a:Option Addr) (k c:Nat) (l:List UInt8) (er:Int),e= .returned (.tuple #[.slice a k c,.int .i64 er])∧openL m g n b=(l,er)∧l.length=k∧BytesAt w' a l∧Below w.heap.size w w'∧k≤c
set_option maxHeartbeats 1000000 in
set_option maxRecDepth 40000 in
theorem sclone_any (ad:Addr) (n c:Nat) (l:List UInt8) (w:World) (hl:BytesAt w (some ad) l) (hn:l.length=n) (hm:n≤140737488351232):
  Calls Tryz.prog 48 #[.slice (some ad) n c] w fun e w'=>∃a' c',e= .returned (.slice a' n c')∧Own w' w.heap.size 5 1 a' n c' (l.map bv)∧Below w.heap.size w w':=by
 have HN:=Lib.hid hn
 clear hn
 have hnil:=fun W=>Go.Lib.run_eql_slice_some_nil (P:=Tryz.prog) W ad n c Tryz.underlying22
 go_enter Tryz.func48,Tryz.ntmps48
 have h4:=Own.lit (w:=w) (B:=w.heap.size) (e:=5) #[] [] 0 rfl rfl (Nat.le_refl _) (by unfold maxLen;omega)
 have hw4:=(Below.refl w.heap.size w).alloc (Nat.le_refl _) (.cells #[] 5)
 go_wp2_with (at_builtin;refine wpList_append_row rfl (.tmp 5) (.tmp 6) 22 rfl bytesT3 rfl h4 rfl (hl.alloc _) (by rw [List.length_map,HN.out];omega) (bv_one _) (by unfold maxLen;omega) (by omega) (by simp) ?_)
 intro a5 c5 w5 ho5 hg5
 have hw5:=h4.grown hw4 (Nat.le_refl _) hg5 (by simp)
 clear hg5 h4 hw4
 go_wp2_with fail
 go_ret
 exact ⟨a5,c5,rfl,by simpa using ho5,hw5⟩
def opTag (m:List UInt8) (g n:Nat) (b:List UInt8) (k:Nat):Bool:=(List.range 32).all fun i=>dgb (markL m g n (b.take k)) i==b.getD (k+i) 0
theorem opTag_iff (m:List UInt8) (g n:Nat) (b:List UInt8) (k:Nat) (hk:b.length=k+32):opTag m g n b k=true↔b.drop k=dgl (markL m g n (b.take k)):=by
 unfold opTag
 rw [List.all_eq_true]
 constructor
 ·intro h
  apply List.ext_getElem
  ·rw [List.length_drop,dgl_length];omega
  ·intro i h1 h2
   rw [dgl_length] at h2
   have:=h i (List.mem_range.2 h2)
   rw [beq_iff_eq] at this
   simp only [List.getElem_drop,dgl,List.getElem_map,List.getElem_range]
   rw [this,List.getD_eq_getElem?_getD,List.getElem?_eq_getElem (by omega)]
   rfl
 ·intro h i hi
  have hi':=List.mem_range.1 hi
  rw [beq_iff_eq]
  have e:(b.drop k)[i]? =some (dgb (markL m g n (b.take k)) i):=by rw [h];simp [dgl,hi']
  rw [List.getElem?_drop] at e
  rw [List.getD_eq_getElem?_getD,e]
  rfl
set_option maxHeartbeats 3000000 in
set_option maxRecDepth 100000 in
theorem sopen_any (B:Nat) (m:List UInt8) (g n:Nat) (ba:Option Addr) (bn bc:Nat) (b:List UInt8) (w:World) (hB:BoxAt w B m g) (hb:BytesAt w ba b) (hbl:b.length=bn) (hbm:bn≤bc) (hg:g<18446744073709551616) (hn:n<18446744073709551616) (hbM:bn≤140737488355328):
  Calls Tryz.prog 109 #[.pointer (some ⟨B,0,none⟩),.int .u64 (n:Int),.slice ba bn bc] w (OpQ w m g n b):=by
 have HL:=Lib.hid hbl
 have hz:=fun x h1 h2 W=>size_any x h1 h2 W
 have HZ:=Lib.hid hz
 have hb0:=Lib.hid hb
 clear hbl hz
 by_cases hr:32≤bn∧bn≤65536
 ·obtain ⟨hr1,hr2⟩:=hr
  obtain ⟨k,hk⟩:∃k,bn=k+32:=⟨bn-32,by omega⟩
  have HK:=Lib.hid hk
  have e1:(bn:Int)-32=(k:Int):=by omega
  have hzk:=HZ.out (k:Int) (by omega) (by omega)
  rw [show sizeI (k:Int)=(k:Int)+32 by rw [sizeI,if_neg (by omega)]] at hzk
  have HZK:=Lib.hid hzk
  have z1:((k:Int)+32==0)=false:=by simp;omega
  have hk2:k≤65504:=by omega
  have hkc:k≤bc:=by omega
  obtain ⟨gb,ob,rfl,_⟩:=hb.at (by rw [HL.out];omega)
  have hop:openL m g n b=if opTag m g n b k=true then (stm (ckB m g) (nonB g n) (b.take k),0) else ([],60):=by
   unfold openL
   rw [HL.out,show bn-32=k by omega]
   by_cases h:opTag m g n b k=true
   ·rw [if_pos ⟨hr1,hr2,(opTag_iff m g n b k (by rw [HL.out];exact hk)).1 h⟩,if_pos h]
   ·rw [if_neg (fun h2=>h ((opTag_iff m g n b k (by rw [HL.out];exact hk)).2 h2.2.2)),if_neg h]
  have HOP:=Lib.hid hop
  clear hop hk hzk
  go_enter Tryz.func109,Tryz.ntmps109
  go_wp2_with fail
  refine (HZK.out _).mono ?_
  rintro e w' ⟨rfl,rfl⟩
  have hbk:BytesAt w (some ⟨gb,ob,none⟩) (b.take k):=by
   have:=RowAt.take k hb
   unfold BytesAt
   rw [List.map_take];exact this
  have hbkl:(b.take k).length=k:=by rw [List.length_take,HL.out];have:=HK.out;omega
  go_wp2_with fail
  refine (sclone_any ⟨gb,ob,none⟩ k bc (b.take k) _ hbk hbkl (by omega)).mono ?_
  rintro e w2 ⟨a2,c2,rfl,ho2,hb2⟩
  obtain ⟨cl,hcl⟩:∃cl,cl=b.take k:=⟨_,rfl⟩
  rw [←hcl] at ho2 hbkl
  have HCL:=Lib.hid hcl
  have HCN:=Lib.hid hbkl
  have hB2:=hB.old hb2
  have hbr2:=hb.below hb2
  clear hcl hbk hbkl hB
  go_upto_region 7 with fail
  have hlt:=hB2.lt
  have hBd:BoxAt w2.drew B m g:=hB2
  have e3:IntKind.i64.wrap (k:Int)=(k:Int):=IntWalk.i64_in _ (by omega)
  have e4:(0:Int)≤(k:Int):=by omega
  have e5:(k:Int)≤(bn:Int):=by omega
  have e6:bn-k=32:=by have:=HK.out;omega
  have e7:¬bc=k:=by have:=HK.out;omega
  have ar:∀p c W,(Instr.arrayAt 170 (.slice (some p) 32 c)).run Tryz.prog W= .ok (.pointer (some p)) W:=fun p c W=>by
   simp [Instr.arrayAt,run_underlying Tryz.underlying170]
  have hlast:∀W,Old w2.drew W→∀i (hi:i<(vL 32 fun i=>bv (b.getD (k+i) 0)).length),W.cell? ⟨gb,ob+k+i,none⟩=some (vL 32 fun i=>bv (b.getD (k+i) 0))[i]:=fun W hW i hi=>by
   rw [vL_length] at hi
   obtain ⟨b',o',e,hc⟩:=BytesAt.cellAt (hbr2.drew.below hW) (k+i) (by rw [HL.out];have:=HK.out;omega)
   cases e
   rw [Nat.add_assoc,hc]
   simp [vL,bv]
  have HLA:=Lib.hid hlast
  clear hlast e1
  refine wp_region_old (0::1::2::4::5::6::7::8::3::9::[]) (by kernel_rfl) (by kernel_rfl) (fun c a d v w h=>by cases d<;>exact h) ?_
  repeat (first|(refine lex_skip rfl (by rfl) ?_;simp only [Act.put,List.setIfInBounds_toArray,List.set])|(refine lex_quiet (v:= ?_) rfl rfl (by rfl) ?_ ?_;rotate_left;(intro W hW;go_simp);(try with_reducible rfl);simp only [Act.put,List.setIfInBounds_toArray,List.set]))
  refine lex_quiet (v:= .agg (vA 32 fun i=>bv (b.getD (k+i) 0))) rfl rfl (by rfl) (fun W hW=>exec_load_as 170 agg32 _ rfl rfl rfl (HLA.out W hW) (vL_length _ _)) ?_
  simp only [Act.put,List.setIfInBounds_toArray,List.set]
  refine lex_loud rfl rfl (by rfl) (fun K hK=> ?_);go_wp2_with fail
  refine (mark_any B m g n a2 k c2 cl _ hBd (ho2.drew.row) HCN.out (by omega) hg hn).mono ?_
  unfold MarP
  rintro e w3 ⟨rfl,hb3⟩
  go_wp2_with fail
  refine hK _ _ hb3 ?_
  clear hK K
  have hw3:Below w2.heap.size w2 w3:=⟨hb3.os,hb3.tape,hb3.output,hb3.size,hb3.block⟩
  obtain ⟨E,hE⟩:∃E,E=opTag m g n b k:=⟨_,rfl⟩
  have hE2:((List.range 32).all fun i=>dgb (markL m g n cl) i==b[k+i]?.getD 0)=E:=by rw [hE,HCL.out];unfold opTag;simp only [List.getD_eq_getElem?_getD]
  have HE:=Lib.hid hE
  have HE2:=Lib.hid hE2
  clear hE hE2
  refine lex_quiet (v:= .bool (!E)) rfl rfl (by rfl) (fun W hW=>exec_cmp .neq 170 _ _ rfl rfl rfl (by kernel_rfl) (by rw [run_neq_struct,dgA,run_equalIn_vA 9998 170 5 32 Tryz.underlying170 Tryz.underlying5 (sized_run u8Info),HE2.out];rfl)) ?_
  simp only [Act.put,List.setIfInBounds_toArray,List.set]
  refine lex_nil ?_
  have hB3:=hB2.old hw3
  have ho3:=ho2.old hw3
  have hw03:=below_step hb2 hw3
  clear hb3 hw3 hBd hB2 ho2 hbr2 hb2 e3 e4 e5 e6 e7 ar
  cases E with
  |false=>
   have hop:=HOP.out
   rw [←HE.out,if_neg (by simp)] at hop
   have HO:=Lib.hid hop
   clear hop
   go_wp2_with fail
   go_ret2
   exact ⟨none,0,0,[],60,rfl,HO.out,rfl,RowAt.nil _ _,hw03,Nat.le_refl _⟩
  |true=>
   have hop:=HOP.out
   rw [←HE.out,if_pos rfl] at hop
   have HO:=Lib.hid hop
   clear hop
   go_upto_region 9 with fail
   have hBd:BoxAt w3.drew B m g:=hB3
   refine wp_region_old (0::1::2::3::4::5::6::8::7::9::10::11::12::13::[]) (by kernel_rfl) (by kernel_rfl) (fun c a d v w h=>by cases d<;>exact h) ?_
   repeat (first|(refine lex_skip rfl (by rfl) ?_;simp only [Act.put,List.setIfInBounds_toArray,List.set])|(refine lex_quiet (v:= ?_) rfl rfl (by rfl) ?_ ?_;rotate_left;(intro W hW;go_simp);(try with_reducible rfl);simp only [Act.put,List.setIfInBounds_toArray,List.set]))
   refine lex_quiet (v:= .agg (fA 16 (ckB m g))) rfl rfl (by rfl) (fun W hW=>exec_load_as 169 agg16 _ rfl rfl rfl (BoxAt.old hBd hW).cipher (fL_length _ _)) ?_
   simp only [Act.put,List.setIfInBounds_toArray,List.set]
   repeat (first|(refine lex_skip rfl (by rfl) ?_;simp only [Act.put,List.setIfInBounds_toArray,List.set])|(refine lex_quiet (v:= ?_) rfl rfl (by rfl) ?_ ?_;rotate_left;(intro W hW;go_simp);(try with_reducible rfl);simp only [Act.put,List.setIfInBounds_toArray,List.set]))
   refine lex_loud rfl rfl (by rfl) (fun K hK=> ?_);go_wp2_with fail
   refine (nonce_any B m g n _ hBd hg hn).mono ?_
   unfold NonP
   rintro e w4 ⟨rfl,hb4⟩
   go_wp2_with fail
   refine hK _ _ hb4 ?_
   clear hK K
   have hw4:Below w3.heap.size w3 w4:=⟨hb4.os,hb4.tape,hb4.output,hb4.size,hb4.block⟩
   refine lex_loud rfl rfl (by rfl) (fun K hK=> ?_);go_wp2_with fail
   refine (stream_any (ckB m g) (nonB g n) a2 k c2 cl _ (ho3.old hw4).row HCN.out (by omega)).mono ?_
   rintro e w5 ⟨a5,c5,rfl,ho5,hb5⟩
   go_wp2_with fail
   refine hK _ _ hb5 ?_
   clear hK K
   repeat (first|(refine lex_skip rfl (by rfl) ?_;simp only [Act.put,List.setIfInBounds_toArray,List.set])|(refine lex_quiet (v:= ?_) rfl rfl (by rfl) ?_ ?_;rotate_left;(intro W hW;go_simp);(try with_reducible rfl);simp only [Act.put,List.setIfInBounds_toArray,List.set]))
   refine lex_nil ?_
   have hw05:=below_step hw03 (below_step hw4 hb5)
   go_wp2_with fail
   go_ret2
   exact ⟨a5,k,c5,_,0,rfl,HO.out,by rw [stm_length,←HCL.out,HCN.out],by rw [←HCL.out];exact ho5.row,hw05,ho5.le⟩
 ·have hop:openL m g n b=([],60):=by
   unfold openL
   rw [HL.out,if_neg (fun h=>hr ⟨h.1,h.2.1⟩)]
  have hzk:=HZ.out ((bn:Int)-32) (by omega) (by omega)
  rw [show sizeI ((bn:Int)-32)=0 by rw [sizeI,if_pos (by omega)]] at hzk
  have HZK:=Lib.hid hzk
  have HOP:=Lib.hid hop
  clear hzk hop
  go_enter Tryz.func109,Tryz.ntmps109
  go_wp2_with fail
  refine (HZK.out _).mono ?_
  rintro e w' ⟨rfl,rfl⟩
  go_wp2_with fail
  go_ret2
  exact ⟨none,0,0,[],60,rfl,HOP.out,rfl,RowAt.nil _ _,Below.refl _ _,Nat.le_refl _⟩
end
end Go.Proofs.YtioigihakjlopaaGreat

/- Texts put together and cut to what is used: ImWState, Deed, ImBytes, ImR. -/
import Derived.Test.YtioigihakjlopaaGreatVB05
namespace Go.Proofs.YtioigihakjlopaaGreat
set_option linter.unusedVariables false
set_option linter.unusedSimpArgs false
section
open Go.RowKit
set_option maxRecDepth 20000
theorem encL_len (l:List Int):(encL l).length=8+8*l.length:=by
 unfold encL
 rw [List.length_append,be8_length,enc_len be8_length]
theorem encP_len (l:List PairL):(encP l).length=8+16*l.length:=by
 unfold encP
 rw [List.length_append,be8_length,enc_len (n:=16) (fun x=>by simp [pairB,be8_length])]
theorem tr1_len (b:Bool):(tr1 b).length=1:=rfl
def InB (B:Nat) (a:Option Addr) (n:Nat):Prop:=0<n→∀ad,a=some ad→ad.block<B
theorem InB.mono {B B':Nat} {a:Option Addr} {n:Nat} (h:InB B a n) (hB:B≤B'):InB B' a n:=fun h1 ad h2=>Nat.lt_of_lt_of_le (h h1 ad h2) hB
theorem RowAt.low {w w':World} {B:Nat} {a:Option Addr} {vs:List Value} {n:Nat} (h:RowAt w a vs) (hi:InB B a n) (hn:n=0→vs=[]) (hb:Below B w w'):RowAt w' a vs:=fun i hi2=>by
 obtain ⟨b,o,e,hc⟩:=h i hi2
 have hp:0<n:=by
  rcases Nat.eq_zero_or_pos n with h0|h0
  ·rw [hn h0] at hi2;simp at hi2
  ·exact h0
 exact ⟨b,o,e,(World.cell?_of_block (a:=⟨b,o+i,none⟩) (hb.block b (hi hp _ e))).trans hc⟩
theorem Ints.low {w w':World} {B:Nat} {s:Sl} {l:List Int} (h:Ints w s l) (hi:InB B s.a s.n) (hb:Below B w w'):Ints w' s l:=
 ⟨RowAt.low h.1 hi (fun h0=>by have:=h.2.1;rw [h0] at this;rw [List.eq_nil_of_length_eq_zero this];rfl) hb,h.2⟩
theorem Pairs.low {w w':World} {B:Nat} {s:Sl} {l:List PairL} (h:Pairs w s l) (hi:InB B s.a s.n) (hb:Below B w w'):Pairs w' s l:=
 ⟨RowAt.low h.1 hi (fun h0=>by have:=h.2.1;rw [h0] at this;rw [List.eq_nil_of_length_eq_zero this];rfl) hb,h.2⟩
theorem Ints.inB {w:World} {s:Sl} {l:List Int} (h:Ints w s l):InB w.heap.size s.a s.n:=fun hn ad ha=>by
 obtain ⟨b,o,e,hc⟩:=h.1 0 (by have:=h.2.1;simp;omega)
 rw [ha] at e
 cases e
 exact World.block_lt_of_cell? w _ hc
theorem Pairs.inB {w:World} {s:Sl} {l:List PairL} (h:Pairs w s l):InB w.heap.size s.a s.n:=fun hn ad ha=>by
 have hl:(l.flatMap PairL.cells).length=2*l.length:=by
  have e:∀l:List PairL,(l.flatMap PairL.cells).length=2*l.length:=fun l=>by
   induction l with
   |nil=>rfl
   |cons x l ih=>rw [List.flatMap_cons,List.length_append,ih,List.length_cons];show 2+_=_;omega
  exact e l
 obtain ⟨b,o,e,hc⟩:=h.1 0 (by have:=h.2.1;omega)
 rw [ha] at e
 cases e
 exact World.block_lt_of_cell? w _ hc
theorem InB.off {w:World} {B:Nat} {q:WC} (hq:WAt w B q) {s:Sl} {n:Nat} (hn:n=s.n) (h:InB B s.a s.n) {α:Type} {l:List α} (hl:l.length=s.n):l≠ []→∀ad,s.a=some ad→¬wfoot q ad.block:=fun hne ad ha hf=>by
 have h1:=(hq.lt hf).1
 have h2:=h (by have:=List.length_pos_iff.2 hne;omega) ad ha
 omega
structure ActionIn (w:World) (B:Nat) (p:ActionP) (h:ActionH):Prop where
 at':ActionAt w p h
 ids:InB B h.ids.a h.ids.n
 pairs:InB B h.pairs.a h.pairs.n
theorem ActionIn.low {w w':World} {B:Nat} {p:ActionP} {h:ActionH} (a:ActionIn w B p h) (hb:Below B w w'):ActionIn w' B p h:=
 ⟨⟨a.at'.op,a.at'.side,a.at'.place,a.at'.target,a.at'.ids.low a.ids hb,a.at'.pairs.low a.pairs hb⟩,a.ids,a.pairs⟩
theorem ActionIn.of {w:World} {p:ActionP} {h:ActionH} (a:ActionAt w p h):ActionIn w w.heap.size p h:=⟨a,a.ids.inB,a.pairs.inB⟩
theorem ActionIn.mono {w:World} {B B':Nat} {p:ActionP} {h:ActionH} (a:ActionIn w B p h) (hB:B≤B'):ActionIn w B' p h:=⟨a.at',a.ids.mono hB,a.pairs.mono hB⟩
set_option maxHeartbeats 4000000 in
theorem action_w (w:World) (B:Nat) (q:WC) (b:Nat) (p:ActionP) (h:ActionH) (hq:WAt w B q) (hB:B≤w.heap.size) (hx:Blk w b (actionCells p h).toArray 38) (ha:ActionIn w B p h) (hb:b<B) (hz:q.bs.length+2*(actionI p).length+2000<1000000000000):
  Calls Tryz.prog 121 #[.pointer (some ⟨q.c,0,none⟩),.pointer (some ⟨b,0,none⟩)] w fun e w'=>e= .returned (.tuple #[])∧∃q',Hid (q'.bs=q.bs++actionI p)∧WStep B w q w' q':=by
 have hmf:∀(fn:Fn) (first cap:Array Value) (w:World),(Instr.makeFunc fn first cap).run Tryz.prog w= .ok (.func fn first cap) w:=fun _ _ _ _=>rfl
 have hlen:(actionI p).length=48+8*p.ids.length+16*p.pairs.length:=by
  simp only [actionI,List.length_append,be8_length,encL_len,encP_len]
  omega
 rw [hlen] at hz
 clear hlen
 have x0:w.cell? ⟨b,0,none⟩=some (.int .i8 p.op):=hx.rule 0
 have x1:w.cell? ⟨b,1,none⟩=some (.int .i64 p.side):=hx.rule 1
 have x2:w.cell? ⟨b,2,none⟩=some (.int .i64 p.place):=hx.rule 2
 have x3:w.cell? ⟨b,3,none⟩=some (.int .i64 p.target):=hx.rule 3
 have x4:w.cell? ⟨b,4,none⟩=some (.slice h.ids.a h.ids.n h.ids.c):=hx.rule 4
 have x5:w.cell? ⟨b,5,none⟩=some (.slice h.pairs.a h.pairs.n h.pairs.c):=hx.rule 5
 have z0:w.frozen? ⟨b,0,none⟩=false:=hx.free 0
 have hbl:=hx.lt
 have hoff:∀{W:World} {Q:WC},WAt W B Q→¬wfoot Q b:=fun hQ hf=>by have:=(hQ.lt hf).1;omega
 have hf:=hoff hq
 clear hx
 have hal:=ha.at'.ids.2.1
 have hpl:=ha.at'.pairs.2.1
 obtain ⟨op,side,place,target,ids,pairs⟩:=p
 dsimp only at*
 go_enter Tryz.func121,Tryz.ntmps121
 have cb:=small_w w B q b 0 op hq hB x0 z0 ha.at'.op hf (by omega)
 go_wp2_with fail
 refine cb.mono ?_
 clear cb
 rintro e w1 ⟨rfl,q1,hbs1,hs1⟩
 have hc1:=hs1.c
 have hb1':=hs1.at'.blk.lt
 go_upto_region 1 with (fail)
 have y1:=hs1.cell x1 hf
 have y2:=hs1.cell x2 hf
 have y3:=hs1.cell x3 hf
 have hf1:=hoff hs1.at'
 have hbl1:=Nat.lt_of_lt_of_le hbl hs1.turn.size
 have hB1:=Nat.le_trans hB hs1.turn.size
 have hq1:=hs1.at'
 have hl1:q1.bs.length=q.bs.length+8:=by rw [hbs1.out,List.length_append,be8_length]
 refine wp_region_treeR false (KeepAt (fun _=>False)) (KeepAt.refl _) (fun _ _ _ h1 h2=>KeepAt.trans h1 h2) (.step 0 (.step 1 (.step 2 (.step 3 (.step 4 (.step 5 (.step 6 (.step 7 (.step 8 (.step 9 (.step 10 (.step 11 .done)))))))))))) (by kernel_rfl) (by kernel_rfl) (fun c a d v w h=>by cases d<;>exact h) ?_
 repeat (first|(refine tree_skip rfl (by rfl) ?_;simp only [Act.put,List.setIfInBounds_toArray,List.set])|(refine tree_quiet (v:= ?_) rfl rfl (by rfl) ?_ ?_;rotate_left;(intro W hW;go_simp);(try with_reducible rfl);simp only [Act.put,List.setIfInBounds_toArray,List.set]))
 refine tree_loud rfl rfl (by rfl) (fun K hK=> ?_);go_wp2_with fail
 refine hK _ _ ⟨by simp,fun _ h=>h.elim⟩ ?_
 clear hK K
 repeat (first|(refine tree_skip rfl (by rfl) ?_;simp only [Act.put,List.setIfInBounds_toArray,List.set])|(refine tree_quiet (v:= ?_) rfl rfl (by rfl) ?_ ?_;rotate_left;(intro W hW;go_simp);(try with_reducible rfl);simp only [Act.put,List.setIfInBounds_toArray,List.set]))
 refine tree_loud rfl rfl (by rfl) (fun K hK=> ?_);go_wp2_with fail
 have hb1:Below w1.heap.size w1 (w1.alloc (.cells #[.pointer (some ⟨b,1,none⟩),.pointer (some ⟨b,2,none⟩),.pointer (some ⟨b,3,none⟩)] 209)).drew:=by (try unfold Kept);repeat (first|assumption|exact Below.refl _ _|exact below_undrew (Below.refl _ _)|exact Below.mono (by assumption) (by first|(simp;done)|(simp;omega)|omega)|refine below_setRow ?_ (by first|(simp;done)|(simp;omega)|omega) _|refine Below.setCell ?_ (by first|(simp;done)|(simp;omega)|omega) _|refine Below.alloc ?_ (by first|(simp;done)|(simp;omega)|omega) _|refine below_drewN ?_ _|refine Below.drew ?_|refine below_undrew ?_|refine below_step ?_ (by assumption))
 have cb:=nums_w _ B q1 w1.heap.size 3 [(b,1,side),(b,2,place),(b,3,target)] (hq1.old hb1) (Nat.le_trans hB1 hb1.size) (Blk.new w1 #[.pointer (some ⟨b,1,none⟩),.pointer (some ⟨b,2,none⟩),.pointer (some ⟨b,3,none⟩)] 209).drew hq1.fresh rfl (fun x hx=>by
  simp only [List.mem_cons,List.mem_nil_iff,or_false] at hx
  rcases hx with rfl|rfl|rfl
  ·exact ⟨by rw [hb1.cell (p:=⟨b,_,none⟩) hbl1];exact y1,hf1⟩
  ·exact ⟨by rw [hb1.cell (p:=⟨b,_,none⟩) hbl1];exact y2,hf1⟩
  ·exact ⟨by rw [hb1.cell (p:=⟨b,_,none⟩) hbl1];exact y3,hf1⟩) (by omega)
 rw [hc1] at cb
 refine cb.mono ?_
 clear cb
 rintro e w2 ⟨rfl,q2,hbs2,hs2⟩
 have hz2:=hs2.turn.size
 replace hs2:=hs2.pre hb1
 go_wp2_with fail
 refine hK _ _ ⟨by simpa using hz2,fun _ h=>h.elim⟩ ?_
 clear hK K
 refine tree_done ?_
 have hs02:=hs1.trans hs2
 have HB2:=Lib.hid (show q2.bs=q.bs++(be8 op++be8 side++be8 place++be8 target) by rw [hbs2.out,hbs1.out];simp)
 have cb:=list_int_w w2 B q2 b 4 h.ids ids hs02.at' (Nat.le_trans hB hs02.turn.size) (hs02.cell x4 hf) (ha.low (hs02.below hq hB)).at'.ids (hoff hs02.at') (InB.off hs02.at' rfl ha.ids hal) (by rw [HB2.out];simp only [List.length_append,be8_length,encL_len,tr1_len];omega)
 rw [hs02.c] at cb
 go_wp2_with fail
 refine cb.mono ?_
 clear cb
 rintro e w3 ⟨rfl,q3,hbs3,hs3⟩
 have HB3:=Lib.hid (show q3.bs=q.bs++(be8 op++be8 side++be8 place++be8 target++encL ids) by rw [hbs3.out,HB2.out];simp [encL,encU,encP])
 have hs03:=hs02.trans hs3
 have cb:=list_pair_w w3 B q3 b 5 h.pairs pairs hs03.at' (Nat.le_trans hB hs03.turn.size) (hs03.cell x5 hf) (ha.low (hs03.below hq hB)).at'.pairs (hoff hs03.at') (InB.off hs03.at' rfl ha.pairs hpl) (by rw [HB3.out];simp only [List.length_append,be8_length,encL_len,tr1_len];omega)
 rw [hs03.c] at cb
 go_wp2_with fail
 refine cb.mono ?_
 clear cb
 rintro e w4 ⟨rfl,q4,hbs4,hs4⟩
 have HB4:=Lib.hid (show q4.bs=q.bs++(be8 op++be8 side++be8 place++be8 target++encL ids++encP pairs) by rw [hbs4.out,HB3.out];simp [encL,encU,encP])
 have hs04:=hs03.trans hs4
 go_wp2_with fail
 refine bodyPost_end (v:= .tuple #[]) (results_none rfl _ _ _) rfl ⟨rfl,q4,Lib.hid ?_,hs04⟩
 rw [HB4.out]
 simp [actionI]
end
section
open Go.ChangeShapes Go.WideShapes Go.ChangeAt Go.RowKit
set_option maxRecDepth 20000
structure DeedP where
 kind:Int
 game:Int
 table:Int
 fmt:Name
 n0:Name
 n1:Name
 d0:List Int
 d1:List Int
 dr:List Int
 act:ActionP
deriving DecidableEq
structure DeedH where
 d0:Sl
 d1:Sl
 dr:Sl
 act:ActionH
deriving Inhabited
def deedCells (p:DeedP) (h:DeedH):List Value:=[.int .i8 p.kind,.int .i64 p.game,.int .i64 p.table,.string p.fmt,.string p.n0,.string p.n1,.slice h.d0.a h.d0.n h.d0.c,.slice h.d1.a h.d1.n h.d1.c,.slice h.dr.a h.dr.n h.dr.c,.int .i8 p.act.op,.int .i64 p.act.side,.int .i64 p.act.place,.int .i64 p.act.target,.slice h.act.ids.a h.act.ids.n h.act.ids.c,.slice h.act.pairs.a h.act.pairs.n h.act.pairs.c]
def deedVal (p:DeedP) (h:DeedH):Value:= .agg #[.int .i8 p.kind,.int .i64 p.game,.int .i64 p.table,.string p.fmt,.string p.n0,.string p.n1,.slice h.d0.a h.d0.n h.d0.c,.slice h.d1.a h.d1.n h.d1.c,.slice h.dr.a h.dr.n h.dr.c,.int .i8 p.act.op,.int .i64 p.act.side,.int .i64 p.act.place,.int .i64 p.act.target,.slice h.act.ids.a h.act.ids.n h.act.ids.c,.slice h.act.pairs.a h.act.pairs.n h.act.pairs.c]
theorem deedVal_cells (p:DeedP) (h:DeedH):deedVal p h= .agg (deedCells p h).toArray:=rfl
def strZ (s:Name):Prop:=s.size≤140737488351232
structure DeedAt (w:World) (p:DeedP) (h:DeedH):Prop where
 kind:wf8 p.kind
 game:wf64 p.game
 table:wf64 p.table
 fmt:strZ p.fmt
 n0:strZ p.n0
 n1:strZ p.n1
 d0:Ints w h.d0 p.d0
 d1:Ints w h.d1 p.d1
 dr:Ints w h.dr p.dr
 act:ActionAt w p.act h.act
theorem DeedAt.old {w w':World} {p:DeedP} {h:DeedH} (a:DeedAt w p h) (hb:Below w.heap.size w w'):DeedAt w' p h:=
 ⟨a.kind,a.game,a.table,a.fmt,a.n0,a.n1,a.d0.old hb,a.d1.old hb,a.dr.old hb,a.act.old hb⟩
structure DeedOwn (w:World) (B:Nat) (p:DeedP) (h:DeedH):Prop where
 kind:wf8 p.kind
 game:wf64 p.game
 table:wf64 p.table
 fmt:strZ p.fmt
 n0:strZ p.n0
 n1:strZ p.n1
 d0:OwnInts w B h.d0 p.d0
 d1:OwnInts w B h.d1 p.d1
 dr:OwnInts w B h.dr p.dr
 act:ActionOwn w B p.act h.act
section
variable {w w':World} {B:Nat} {p:DeedP} {h:DeedH}
theorem DeedOwn.at (a:DeedOwn w B p h):DeedAt w p h:=⟨a.kind,a.game,a.table,a.fmt,a.n0,a.n1,a.d0.at,a.d1.at,a.dr.at,a.act.at⟩
theorem DeedOwn.old (a:DeedOwn w B p h) (hb:Below w.heap.size w w'):DeedOwn w' B p h:=⟨a.kind,a.game,a.table,a.fmt,a.n0,a.n1,a.d0.old hb,a.d1.old hb,a.dr.old hb,a.act.old hb⟩
theorem DeedOwn.lower (a:DeedOwn w B p h) {B':Nat} (hB:B'≤B):DeedOwn w B' p h:=⟨a.kind,a.game,a.table,a.fmt,a.n0,a.n1,a.d0.lower hB,a.d1.lower hB,a.dr.lower hB,a.act.lower hB⟩
end
structure DeedIn (w:World) (B:Nat) (p:DeedP) (h:DeedH):Prop where
 at':DeedAt w p h
 d0:InB B h.d0.a h.d0.n
 d1:InB B h.d1.a h.d1.n
 dr:InB B h.dr.a h.dr.n
 ids:InB B h.act.ids.a h.act.ids.n
 pairs:InB B h.act.pairs.a h.act.pairs.n
theorem DeedIn.low {w w':World} {B:Nat} {p:DeedP} {h:DeedH} (a:DeedIn w B p h) (hb:Below B w w'):DeedIn w' B p h:=
 ⟨⟨a.at'.kind,a.at'.game,a.at'.table,a.at'.fmt,a.at'.n0,a.at'.n1,a.at'.d0.low a.d0 hb,a.at'.d1.low a.d1 hb,a.at'.dr.low a.dr hb,⟨a.at'.act.op,a.at'.act.side,a.at'.act.place,a.at'.act.target,a.at'.act.ids.low a.ids hb,a.at'.act.pairs.low a.pairs hb⟩⟩,a.d0,a.d1,a.dr,a.ids,a.pairs⟩
theorem DeedIn.of {w:World} {p:DeedP} {h:DeedH} (a:DeedAt w p h):DeedIn w w.heap.size p h:=⟨a,a.d0.inB,a.d1.inB,a.dr.inB,a.act.ids.inB,a.act.pairs.inB⟩
theorem str1C:Tryz.prog.cellsOf 9=1:=by kernel_rfl
theorem str2C:Tryz.prog.cellsOf 33=2:=by kernel_rfl
theorem ints2C:Tryz.prog.cellsOf 35=2:=by kernel_rfl
theorem act6C:Tryz.prog.cellsOf 38=6:=by kernel_rfl
theorem deedT:AggT Tryz.prog 40 15:=⟨⟨_,Tryz.underlying40,rfl⟩,by kernel_rfl⟩
theorem actT:AggT Tryz.prog 38 6:=⟨⟨_,Tryz.underlying38,rfl⟩,by kernel_rfl⟩
section
variable {H:Type} {enc:TypeId×Value→H} {P:Program} {w:World}
theorem Came.name {t:TypeId} {c:Value} (h:Came enc P w t [c]) (hs:P.underlying t=some .string):∃s:Name,c= .string s∧strZ s:=by
 obtain ⟨n,x,h1,h2⟩:=h
 obtain ⟨s,hc,hx,_⟩:=DataW.trod_string hs h1
 simp at hc
 refine ⟨s,hc,?_⟩
 have:=h2 s.data.toList.length (by rw [hx];simp [DataW.weights])
 rw [Array.length_toList] at this
 exact this
end
section
variable {H:Type} {enc:TypeId×Value→H} {w:World}
theorem came_deed {cs:List Value} (hlen:cs.length=15) (hc:Came enc Tryz.prog w 40 cs):∃(p:DeedP) (h:DeedH),cs=deedCells p h∧DeedAt w p h:=by
 have f0:=hc.field Tryz.underlying40 0 (by decide)
 have f1:=hc.field Tryz.underlying40 1 (by decide)
 have f2:=hc.field Tryz.underlying40 2 (by decide)
 have f3:=hc.field Tryz.underlying40 3 (by decide)
 have f4:=hc.field Tryz.underlying40 4 (by decide)
 have f5:=hc.field Tryz.underlying40 5 (by decide)
 have f6:=hc.field Tryz.underlying40 6 (by decide)
 have f7:=hc.field Tryz.underlying40 7 (by decide)
 match cs,hlen with
 | [c0,c1,c2,c3,c4,c5,c6,c7,c8,c9,c10,c11,c12,c13,c14],_=>
  simp [i8c,int1,ints1,str1C,str2C,ints2C,act6C] at f0 f1 f2 f3 f4 f5 f6 f7
  have g0:=f4.elem Tryz.underlying33 0 (by decide)
  have g1:=f4.elem Tryz.underlying33 1 (by decide)
  have k0:=f5.elem Tryz.underlying35 0 (by decide)
  have k1:=f5.elem Tryz.underlying35 1 (by decide)
  simp [str1C,ints1] at g0 g1 k0 k1
  obtain ⟨n0,rfl,w0⟩:=f0.int Tryz.underlying32
  obtain ⟨n1,rfl,w1⟩:=f1.int Tryz.underlying3
  obtain ⟨n2,rfl,w2⟩:=f2.int Tryz.underlying3
  obtain ⟨n3,rfl,w3⟩:=f3.name Tryz.underlying9
  obtain ⟨n4,rfl,w4⟩:=g0.name Tryz.underlying9
  obtain ⟨n5,rfl,w5⟩:=g1.name Tryz.underlying9
  obtain ⟨s6,l6,rfl,w6⟩:=came_ints' k0
  obtain ⟨s7,l7,rfl,w7⟩:=came_ints' k1
  obtain ⟨s8,l8,rfl,w8⟩:=came_ints' f6
  obtain ⟨p,h,e,w9⟩:=came_action rfl f7
  unfold actionCells at e
  simp only [List.cons.injEq] at e
  obtain ⟨rfl,rfl,rfl,rfl,rfl,rfl,-⟩:=e
  exact ⟨⟨n0,n1,n2,n3,n4,n5,l6,l7,l8,p⟩,⟨s6,s7,s8,h⟩,rfl,⟨w0,w1,w2,w3,w4,w5,w6,w7,w8,w9⟩⟩
theorem came_deed' {W:World} {v:Value} {d:DataW H} {ps:List MemPlace} {r:Reach} {b0:Nat} (hz:∀n∈d.weights Tryz.prog 40,n≤reachBytes) (hv:Value.okWide Tryz.prog W r b0 40 v) (h:DataW.Trod enc Tryz.prog W 0 (fun _=>true) true 40 v d ps):
  ∃p g,v=deedVal p g∧DeedAt W p g:=by
 obtain ⟨cs,rfl,hl,hc⟩:=came_agg Tryz.underlying40 (show Tryz.prog.cellsOf 40=15 by kernel_rfl) hz hv h
 obtain ⟨p,g,rfl,ha⟩:=came_deed hl hc
 exact ⟨p,g,(deedVal_cells p g).symm,ha⟩
end
end
section
open Go.RowKit
set_option maxRecDepth 20000
set_option maxHeartbeats 2000000 in
theorem actbytes_w (w:World) (p:ActionP) (h:ActionH) (ha:ActionAt w p h) (hz:(actionI p).length<100000000000):
  Calls Tryz.prog 76 #[actionVal p h] w fun e w'=>∃a c,e= .returned (.slice a (actionI p).length c)∧Own w' w.heap.size 5 1 a (actionI p).length c ((actionI p).map bv)∧Below w.heap.size w w':=by
 rw [actionVal_cells]
 go_enter Tryz.func76,Tryz.ntmps76
 go_upto_region 1 with (fail)
 obtain ⟨S,hS⟩:∃S,S=w.heap.size:=⟨_,rfl⟩
 rw [←hS]
 refine wp_forget (fun W=>Blk W S (actionCells p h).toArray 38∧Below w.heap.size w W∧S<W.heap.size) ⟨by rw [hS];exact Blk.new w _ _,by (try unfold Kept);repeat (first|assumption|exact Below.refl _ _|exact below_undrew (Below.refl _ _)|exact Below.mono (by assumption) (by first|(simp;done)|(simp;omega)|omega)|refine below_setRow ?_ (by first|(simp;done)|(simp;omega)|omega) _|refine Below.setCell ?_ (by first|(simp;done)|(simp;omega)|omega) _|refine Below.alloc ?_ (by first|(simp;done)|(simp;omega)|omega) _|refine below_drewN ?_ _|refine Below.drew ?_|refine below_undrew ?_|refine below_step ?_ (by assumption)),by rw [hS];simp⟩ ?_
 rintro W1 ⟨hs1,hb1,hl1⟩
 have HS:=Lib.hid hS
 clear hS
 go_upto_region 2 with (fail)
 obtain ⟨C,hC⟩:∃C,C=W1.heap.size:=⟨_,rfl⟩
 rw [←hC]
 refine wp_forget (fun W=>Blk W C #[.slice none 0 0,.int .i64 0,.bool false] 184∧Below W1.heap.size W1 W) ⟨by rw [hC];exact Blk.new W1 _ _,by (try unfold Kept);repeat (first|assumption|exact Below.refl _ _|exact below_undrew (Below.refl _ _)|exact Below.mono (by assumption) (by first|(simp;done)|(simp;omega)|omega)|refine below_setRow ?_ (by first|(simp;done)|(simp;omega)|omega) _|refine Below.setCell ?_ (by first|(simp;done)|(simp;omega)|omega) _|refine Below.alloc ?_ (by first|(simp;done)|(simp;omega)|omega) _|refine below_drewN ?_ _|refine Below.drew ?_|refine below_undrew ?_|refine below_step ?_ (by assumption))⟩ ?_
 rintro W2 ⟨hc2,hb2⟩
 have hb02:=below_step hb1 hb2
 have hq2:WAt W2 W1.heap.size ⟨C,none,0,[]⟩:=⟨by show W1.heap.size≤C;omega,hc2,Own.nil _ _ _ _⟩
 have hin:ActionIn W2 W1.heap.size p h:=((ActionIn.of ha).low hb02).mono hb1.size
 have cb:=action_w W2 W1.heap.size ⟨C,none,0,[]⟩ S p h hq2 hb2.size (hs1.old hb2) hin hl1 (by simp;omega)
 dsimp only at cb
 clear hC
 go_wp2_with fail
 refine cb.mono ?_
 clear cb
 rintro e W3 ⟨rfl,q',hbs,hs⟩
 have cc:=hs.at'.blk.rule
 unfold wcells at cc
 have hc':q'.c=C:=hs.c
 rw [hc'] at cc
 have hbq:q'.bs=actionI p:=by rw [hbs.out];simp
 have hb03:=hb1.trans ((hs.below hq2 hb2.size).mono hb1.size|>(Below.trans (hb2.mono hb1.size)))
 have HQ:=Lib.hid hbq
 have hrow:=hs.at'.row
 have HR:=Lib.hid hrow
 clear hbq hrow
 go_wp2_with fail
 go_ret
 refine ⟨q'.a,q'.cap,by rw [HQ.out];rfl,?_,hb03⟩
 have:=HR.out.lower hb1.size
 rw [HQ.out] at this
 exact this
structure RC where
 c:Nat
 a:Option Addr
 cap:Nat
 bs:List UInt8
 at_:Nat
def RC.to (q:RC) (a:Nat):RC:={q with at_:=a}
def rcells (q:RC):Array Value:= #[.slice q.a q.bs.length q.cap,.int .i64 (q.at_:Int),.bool true]
structure RAt (w:World) (B:Nat) (q:RC):Prop where
 ge:B≤q.c
 blk:Blk w q.c (rcells q) 184
 row:BytesAt w q.a q.bs
 low:InB B q.a q.bs.length
 le:q.at_≤q.bs.length
 max:q.bs.length≤1048576
def wrongP (p:Nat):List PanicEntry:=[{v:= .iface 218 (.agg #[.int .i64 (p:Int)]),recovered:=false}]
section
variable {w w' w'':World} {B:Nat} {q q' q'':RC}
theorem RAt.keep (h:RAt w B q) (hk:w'.heap[q.c]? =w.heap[q.c]?) (hb:Below B w w'):RAt w' B q:=
 ⟨h.ge,hk.trans h.blk,RowAt.low h.row h.low (fun h0=>by rw [List.eq_nil_of_length_eq_zero h0];rfl) hb,h.low,h.le,h.max⟩
theorem RAt.old (h:RAt w B q) (hb:Below w.heap.size w w') (hB:B≤w.heap.size):RAt w' B q:=h.keep (hb.block _ h.blk.lt) (hb.mono hB)
structure RGot (B:Nat) (w:World) (q:RC) (w':World) (q':RC) (xb:Nat) (cs:Array Value) (t:TypeId):Prop where
 at':RAt w' B q'
 turn:Turn (fun x=>x=q.c∨x=xb) w w'
 blk:Blk w' xb cs t
theorem RGot.below {xb:Nat} {cs:Array Value} {t:TypeId} (h:RGot B w q w' q' xb cs t) (hq:RAt w B q) (hx:B≤xb) (hB:B≤w.heap.size):Below B w w':=h.turn.below (fun x hx2=>by
 rcases hx2 with rfl|rfl
 ·exact hq.ge
 ·exact hx) hB
theorem Blk.uniq {b:Nat} {cs cs':Array Value} {t:TypeId} (h:Blk w b cs t) (h':Blk w b cs' t):cs=cs':=by
 have h1:w.heap[b]? =_:=h
 have h2:w.heap[b]? =_:=h'
 rw [h1] at h2
 simpa using h2
structure RBad (w:World) (q:RC) (w':World) (xb:Nat) (t:TypeId):Prop where
 turn:Turn (fun x=>x=q.c∨x=xb) w w'
 blk:∀cs,Blk w xb cs t→∃cs',Blk w' xb cs' t∧cs'.size=cs.size
variable {xb Y:Nat} {t tY:TypeId} {cs cs':Array Value}
theorem RBad.below (h:RBad w q w' xb t) (hq:RAt w B q) (hx:B≤xb) (hB:B≤w.heap.size):Below B w w':=h.turn.below (fun x hx2=>by
 rcases hx2 with rfl|rfl
 ·exact hq.ge
 ·exact hx) hB
theorem RBad.keep (ht:Turn (fun x=>x=q.c) w w') (hne:xb≠q.c) (hl:xb<w.heap.size):RBad w q w' xb t:=
 ⟨ht.mono fun _ h=> .inl h,fun cs h=>⟨cs,(ht.block xb hl hne).trans h,rfl⟩⟩
theorem RBad.of (hx:Blk w xb cs t) (ht:Turn (fun x=>x=q.c∨x=xb) w w') (hx':Blk w' xb cs' t) (hs:cs'.size=cs.size):RBad w q w' xb t:=
 ⟨ht,fun c h=>⟨cs',hx',by rw [hs,hx.uniq h]⟩⟩
theorem RBad.after (h:RGot B w q w' q' xb cs' t) (hx:Blk w xb cs t) (hs:cs'.size=cs.size) (h2:RBad w' q'' w'' xb t) (hc:q''.c=q.c):RBad w q w'' xb t:=by
 obtain ⟨c2,h3,h4⟩:=h2.blk _ h.blk
 exact RBad.of hx (h.turn.trans h2.turn fun x hx=> .inl (by rwa [hc] at hx)) h3 (h4.trans hs)
theorem RBad.pre {w0:World} (hb:Below w0.heap.size w0 w) (h:RBad w q w' xb t):RBad w0 q w' xb t:=
 ⟨(Turn.of_below (F:=fun x=>x=q.c∨x=xb) hb).trans h.turn (fun _ hk=> .inl hk),fun cs hx=>h.blk cs (hx.old hb)⟩
theorem local_turn {w1:World} (hb:Below w.heap.size w w1) (ht:Turn (fun x=>x=q'.c∨x=Y) w1 w') (hY:w.heap.size≤Y) (hc:q'.c=q.c):Turn (fun x=>x=q.c) w w':=
 (Turn.of_below (F:=fun x=>x=q.c) hb).trans ht fun x hx=>by
  rcases hx with rfl|rfl
  ·exact .inl hc
  ·exact .inr hY
theorem RBad.loc {w1:World} (hb:Below w.heap.size w w1) (h:RBad w1 q' w' Y tY) (hY:w.heap.size≤Y) (hc:q'.c=q.c) (hne:xb≠q.c) (hl:xb<w.heap.size):RBad w q w' xb t:=RBad.keep (local_turn hb h.turn hY hc) hne hl
theorem RGot.loc {w1:World} (hb:Below w.heap.size w w1) (h:RGot B w1 q' w' q'' Y cs tY) (hY:w.heap.size≤Y) (hc:q'.c=q.c) (hne:xb≠q.c) (hl:xb<w.heap.size):RBad w q w' xb t:=RBad.keep (local_turn hb h.turn hY hc) hne hl
theorem RBad.drewN (h:RBad w q w' xb t) (n:Nat):RBad w q (w'.drewN n) xb t:=⟨h.turn.drewN n,h.blk⟩
end
set_option maxHeartbeats 2000000 in
theorem byte_r (w:World) (B:Nat) (q:RC) (yb:Nat) (z:Int) (hq:RAt w B q) (hB:B≤w.heap.size) (hy:Blk w yb #[.int .u8 z] 5) (hyB:B≤yb):
  Calls Tryz.prog 179 #[.pointer (some ⟨q.c,0,none⟩),.pointer (some ⟨yb,0,none⟩)] w fun e w'=>(q.at_=q.bs.length→e= .panicked (wrongP q.at_)∧RBad w q w' yb 5)∧(∀hl:q.at_<q.bs.length,e= .returned (.tuple #[])∧RGot B w q w' (q.to (q.at_+1)) yb #[.int .u8 (U8 q.bs[q.at_])] 5):=by
 have hc:=hq.blk.rule
 unfold rcells at hc
 have hcl:=hq.blk.lt
 have hyl:=hy.lt
 have hmx:=hq.max
 have hle:=hq.le
 by_cases hl:q.at_<q.bs.length
 ·obtain ⟨b,o,ha,hcell⟩:=hq.row q.at_ (by simpa using hl)
  have hbl:b<w.heap.size:=World.block_lt_of_cell? w _ hcell
  have hbB:b<B:=hq.low (by omega) _ ha
  rw [List.getElem_map] at hcell
  unfold bv at hcell
  rw [ha] at hc
  have t0:((q.at_:Int)==(q.bs.length:Int))=false:=by simp;omega
  go_enter Tryz.func179,Tryz.ntmps179
  go_wp2_with fail
  have l0:∀W,Old w.drew W→∀i,W.cell? ⟨q.c,i,none⟩=(rcells q)[i]? :=fun W hW i=>by rw [hW.cell (p:=⟨q.c,i,none⟩) hcl];exact hq.blk.rule i
  have l1:∀W,Old w.drew W→W.cell? ⟨q.c,0,none⟩=some (.slice (some ⟨b,o,none⟩) q.bs.length q.cap):=fun W hW=>by rw [l0 W hW 0];unfold rcells;rw [ha];rfl
  have l2:∀W,Old w.drew W→W.cell? ⟨q.c,1,none⟩=some (.int .i64 (q.at_:Int)):=fun W hW=>by rw [l0 W hW 1];rfl
  clear l0
  refine wp_region_old (0::1::2::3::4::5::6::7::8::9::[]) (by kernel_rfl) (by kernel_rfl) (fun c a d v w h=>by cases d<;>exact h) ?_
  repeat (first|(refine lex_skip rfl (by rfl) ?_;simp only [Act.put,List.setIfInBounds_toArray,List.set])|(refine lex_quiet (v:= ?_) rfl rfl (by rfl) ?_ ?_;rotate_left;(intro W hW;go_simp);(try with_reducible rfl);simp only [Act.put,List.setIfInBounds_toArray,List.set]))
  refine lex_nil ?_
  go_upto_region 4 with (fail)
  have hcl2:q.c<w.drew.heap.size:=hcl
  clear l1 l2
  have hb1:Below w.heap.size w w.drew:=by (try unfold Kept);repeat (first|assumption|exact Below.refl _ _|exact below_undrew (Below.refl _ _)|exact Below.mono (by assumption) (by first|(simp;done)|(simp;omega)|omega)|refine below_setRow ?_ (by first|(simp;done)|(simp;omega)|omega) _|refine Below.setCell ?_ (by first|(simp;done)|(simp;omega)|omega) _|refine Below.alloc ?_ (by first|(simp;done)|(simp;omega)|omega) _|refine below_drewN ?_ _|refine Below.drew ?_|refine below_undrew ?_|refine below_step ?_ (by assumption))
  obtain ⟨w1,hw1⟩:∃W,W=w.drew:=⟨_,rfl⟩
  rw [←hw1] at hb1⊢
  have hq1:=hq.old hb1 hB
  have hy1:=hy.old hb1
  have hcell1:w1.cell? ⟨b,o+q.at_,none⟩=some (.int .u8 (U8 q.bs[q.at_])):=by rw [hb1.cell (p:=⟨b,o+q.at_,none⟩) hbl];exact hcell
  clear hw1
  have hbl1:=Nat.lt_of_lt_of_le hbl hb1.size
  have hcl1:=hq1.blk.lt
  have hyl1:=hy1.lt
  have l0:∀W,Old w1.drew W→∀i,W.cell? ⟨q.c,i,none⟩=(rcells q)[i]? :=fun W hW i=>by rw [hW.cell (p:=⟨q.c,i,none⟩) hcl1];exact hq1.blk.rule i
  have l1:∀W,Old w1.drew W→W.cell? ⟨q.c,0,none⟩=some (.slice (some ⟨b,o,none⟩) q.bs.length q.cap):=fun W hW=>by rw [l0 W hW 0];unfold rcells;rw [ha];rfl
  have l2:∀W,Old w1.drew W→W.cell? ⟨q.c,1,none⟩=some (.int .i64 (q.at_:Int)):=fun W hW=>by rw [l0 W hW 1];rfl
  have l3:∀W,Old w1.drew W→W.cell? ⟨b,o+q.at_,none⟩=some (.int .u8 (U8 q.bs[q.at_])):=fun W hW=>by rw [hW.cell (p:=⟨b,o+q.at_,none⟩) hbl1];exact hcell1
  obtain ⟨y,hyd⟩:∃y,y=q.bs[q.at_]:=⟨_,rfl⟩
  rw [←hyd] at l3
  have HYD:=Lib.hid hyd
  clear hyd
  have cy:=hy1.rule
  have fy:=hy1.free
  clear l0 hcell hcell1
  refine wp_region_treeR true Old Old.refl Old.trans (.step 0 (.step 1 (.step 2 (.step 3 (.step 4 (.step 5 (.step 6 (.step 7 (.step 8 (.step 9 (.step 10 (.step 11 (.step 12 .done))))))))))))) (by kernel_rfl) (by kernel_rfl) (fun c a d v w h=>by cases d<;>exact h) ?_
  repeat (first|(refine tree_skip rfl (by rfl) ?_;simp only [Act.put,List.setIfInBounds_toArray,List.set])|(refine tree_quiet (v:= ?_) rfl rfl (by rfl) ?_ ?_;rotate_left;(intro W hW;go_simp);(try with_reducible rfl);simp only [Act.put,List.setIfInBounds_toArray,List.set]))
  refine tree_store rfl rfl (by rfl) (fun K hK=> ?_);go_wp2_with fail;refine tree_done ?_
  go_upto_region 5 with (fail)
  have hne:yb≠q.c:=hy1.ne hq1.blk (by decide)
  refine wp_forget (fun W=>Blk W yb #[.int .u8 (U8 y)] 5∧RAt W B q∧Turn (fun x=>x=q.c∨x=yb) w W) ⟨?_,?_,?_⟩ ?_
  ·exact (hy1.set 0 (.int .u8 (U8 y))).drew
  ·exact hq1.keep (heap_setCell_other _ _ _ _ (Ne.symm hne)) ((Below.refl _ _).setCell hyB _).drew
  ·exact ((Turn.of_below hb1).setCell (.inl (.inr rfl)) _).drew
  rintro W2 ⟨hy2,hq2,ht2⟩
  have c2:=hq2.blk.rule
  have f2:=hq2.blk.free
  unfold rcells at c2
  have hadd:IntKind.i64.wrap ((q.at_:Int)+1)=((q.at_+1:Nat):Int):=by rw [IntKind.wrap_i64];omega
  clear l1 l2 l3 cy fy hc hb1 hbl1 hcl1 hyl1
  go_wp2_with fail
  refine bodyPost_end (v:= .tuple #[]) (results_none rfl _ _ _) rfl ⟨fun e=>absurd e (Nat.ne_of_lt hl),fun _=>⟨rfl,⟨⟨hq.ge,?_,?_,hq.low,hl,hmx⟩,ht2.setCell (.inl (.inl rfl)) _,?_⟩⟩⟩
  ·have:=hq2.blk.set 1 (.int .i64 ((q.at_+1:Nat):Int))
   unfold rcells at this
   simpa [rcells,RC.to,ha] using this
  ·exact RowAt.low hq2.row hq2.low (fun h0=>by show q.bs.map bv=[];rw [List.eq_nil_of_length_eq_zero h0];rfl) ((Below.refl _ _).setCell hq.ge _)
  ·rw [←HYD.out]
   exact (heap_setCell_other _ _ _ _ hne).trans hy2
 ·have he:q.at_=q.bs.length:=by omega
  have t0:((q.at_:Int)==(q.bs.length:Int))=true:=by simp [he]
  have HE:=Lib.hid he
  have l0:∀W,Old w.drew W→∀i,W.cell? ⟨q.c,i,none⟩=(rcells q)[i]? :=fun W hW i=>by rw [hW.cell (p:=⟨q.c,i,none⟩) hcl];exact hq.blk.rule i
  have l1:∀W,Old w.drew W→W.cell? ⟨q.c,0,none⟩=some (.slice q.a q.bs.length q.cap):=fun W hW=>by rw [l0 W hW 0];rfl
  have l2:∀W,Old w.drew W→W.cell? ⟨q.c,1,none⟩=some (.int .i64 (q.at_:Int)):=fun W hW=>by rw [l0 W hW 1];rfl
  clear l0 he
  go_enter Tryz.func179,Tryz.ntmps179
  go_wp2_with fail
  refine wp_region_old (0::1::2::3::4::5::6::7::8::9::[]) (by kernel_rfl) (by kernel_rfl) (fun c a d v w h=>by cases d<;>exact h) ?_
  repeat (first|(refine lex_skip rfl (by rfl) ?_;simp only [Act.put,List.setIfInBounds_toArray,List.set])|(refine lex_quiet (v:= ?_) rfl rfl (by rfl) ?_ ?_;rotate_left;(intro W hW;go_simp);(try with_reducible rfl);simp only [Act.put,List.setIfInBounds_toArray,List.set]))
  refine lex_nil ?_
  go_wp2_with fail
  exact ⟨rfl,fun _=>⟨rfl,RBad.keep ((Turn.refl _ _).drew) (hy.ne hq.blk (by decide)) hyl⟩,fun hlt=>absurd hlt hl⟩
theorem i64_of_u64 (a:BitVec 64):IntKind.i64.wrap (U64 a)=a.toInt:=by
 rw [IntKind.wrap_i64]
 unfold U64
 have:=a.isLt
 rw [BitVec.toInt_eq_toNat_cond]
 split<;>omega
theorem rdB_snoc (l:List UInt8) (y:UInt8):rdB (l++ [y])=(rdB l<<<8|||y.toBitVec.setWidth 64):=by
 unfold rdB
 rw [List.foldl_append]
 rfl
theorem RGot.chain {w w' w'':World} {B:Nat} {q q' q'':RC} {xb:Nat} {cs cs':Array Value} {t:TypeId} (h:RGot B w q w' q' xb cs t) (h':RGot B w' q' w'' q'' xb cs' t) (hc:q'.c=q.c):RGot B w q w'' q'' xb cs' t:=
 ⟨h'.at',h.turn.trans h'.turn (fun k hk=> .inl (by rwa [hc] at hk)),h'.blk⟩
theorem ofInt_wrap64 (x:Int):BitVec.ofInt 64 (IntKind.u64.wrap x)=BitVec.ofInt 64 x:=by
 apply BitVec.eq_of_toNat_eq
 rw [BitVec.toNat_ofInt,BitVec.toNat_ofInt]
 simp only [IntKind.wrap,IntKind.bits,IntKind.signed]
 simp
theorem u64_wrap (x:BitVec 64):IntKind.u64.wrap (x.toNat:Int)=U64 x:=by
 have:=x.isLt
 simp only [U64,IntKind.wrap,IntKind.bits,IntKind.signed]
 simp
 omega
theorem bits_or64 (x y:Int):bits .or .u64 x y=U64 (BitVec.ofInt 64 x|||BitVec.ofInt 64 y):=u64_wrap _
theorem or_step (a:BitVec 64) (y:UInt8):bits .or .u64 (IntKind.u64.wrap (U64 a*256)) (IntKind.u64.wrap (U8 y))=U64 (a<<<8|||y.toBitVec.setWidth 64):=by
 rw [bits_or64,ofInt_wrap64,ofInt_wrap64]
 congr 2
 ·apply BitVec.eq_of_toNat_eq
  rw [BitVec.toNat_ofInt,BitVec.toNat_shiftLeft,Nat.shiftLeft_eq]
  unfold U64
  omega
 ·apply BitVec.eq_of_toNat_eq
  rw [BitVec.toNat_ofInt,BitVec.toNat_setWidth]
  unfold U8
  have h:y.toBitVec.toNat=y.toNat:=rfl
  rw [h]
  omega
def NumR (w:World) (B:Nat) (q:RC) (f:Nat) (v4 v5:Value) (wr:World):Prop:=
 ∃(k:Nat),k+f=8∧v5= .int .i64 (56-8*(k:Int))∧v4= .int .u64 (U64 (rdB ((q.bs.drop q.at_).take k)))∧RAt wr B (q.to (q.at_+k))∧Turn (fun x=>x=q.c) w wr
set_option maxHeartbeats 2000000 in
theorem num_r (w:World) (B:Nat) (q:RC) (xb i:Nat) (cs:Array Value) (t:TypeId) (v:Int) (hq:RAt w B q) (hB:B≤w.heap.size) (hx:Blk w xb cs t) (hi:cs[i]? =some (.int .i64 v)) (hxB:B≤xb) (hxc:xb≠q.c):
  Calls Tryz.prog 148 #[.pointer (some ⟨q.c,0,none⟩),.pointer (some ⟨xb,i,none⟩)] w fun e w'=>(q.bs.length<q.at_+8→e= .panicked (wrongP q.bs.length)∧RBad w q w' xb t)∧
   (q.at_+8≤q.bs.length→e= .returned (.tuple #[])∧RGot B w q w' (q.to (q.at_+8)) xb (cs.setIfInBounds i (.int .i64 (rdB ((q.bs.drop q.at_).take 8)).toInt)) t):=by
 have hxl:=hx.lt
 have hmx:=hq.max
 go_enter Tryz.func148,Tryz.ntmps148
 go_wp2_with fail
 go_loopg [4,5] 8 (NumR w B q)
 case atStart=>exact ⟨0,rfl,rfl,by simp [rdB,U64],hq,Turn.refl _ _⟩
 case round=>
  obtain ⟨k,hk,rfl,rfl,hqr,htr⟩:=hrel
  have hxr:Blk wr xb cs t:=(htr.block xb hxl hxc).trans hx
  have cx:wr.cell? ⟨xb,i,none⟩=some (.int .i64 v):=(hxr.rule i).trans hi
  have hle:=hqr.le
  unfold RC.to at hle
  dsimp only at hle
  have hBr:=Nat.le_trans hB htr.size
  by_cases hlt:k<8
  ·have t0:decide ((0:Int)≤56-8*(k:Int))=true:=by simp;omega
   have v3:(0:Int)≤56-8*(k:Int):=by omega
   have v4:(56-8*(k:Int)).toNat=56-8*k:=by omega
   have v5:IntKind.i64.wrap (56-8*(k:Int)-8)=56-8*((k+1:Nat):Int):=by rw [IntKind.wrap_i64];omega
   go_upto_region 5 with fail
   obtain ⟨z,hzd⟩:∃z,z=IntKind.u64.wrap v/2^(56-8*k)%256:=⟨_,rfl⟩
   rw [←hzd]
   clear hzd v4
   have hb1:Below wr.heap.size wr (wr.alloc (.cells #[.int .u8 z] 5)):=(Below.refl _ _).alloc (Nat.le_refl _) _
   have hy1:Blk (wr.alloc (.cells #[.int .u8 z] 5)) wr.heap.size #[.int .u8 z] 5:=Blk.new wr _ _
   have cb:=byte_r _ B (q.to (q.at_+k)) wr.heap.size z (hqr.old hb1 hBr) (Nat.le_trans hBr hb1.size) hy1 hBr
   have hcc:(q.to (q.at_+k)).c=q.c:=rfl
   rw [hcc] at cb
   by_cases hmore:q.at_+k<q.bs.length
   ·go_wp2_with fail
    refine cb.mono ?_
    clear cb
    rintro e w2 ⟨-,hr⟩
    obtain ⟨rfl,hg⟩:=hr hmore
    have cy:=hg.blk.rule
    obtain ⟨y,hyd⟩:∃y,y=q.bs[q.at_+k]:=⟨_,rfl⟩
    have cy2:w2.cell? ⟨wr.heap.size,0,none⟩=some (.int .u8 (U8 y)):=by rw [hyd];exact cy 0
    clear cy
    have htk:(q.bs.drop q.at_).take (k+1)=(q.bs.drop q.at_).take k++ [y]:=by
     rw [List.take_succ_eq_append_getElem (by rw [List.length_drop];omega),hyd]
     simp
    have HTK:=Lib.hid htk
    have ht2:Turn (fun x=>x=q.c) w w2:=htr.trans ((Turn.of_below (F:=fun x=>x=q.c) hb1).trans hg.turn fun x hx=>by
     rcases hx with rfl|rfl
     ·exact .inl rfl
     ·exact .inr (Nat.le_refl _)) fun _ hk=> .inl hk
    have hq2:RAt w2 B (q.to (q.at_+(k+1))):=hg.at'
    clear htk hyd hg hxr
    go_wp2_with fail
    go_roundg (gk-1)
    case measure=>omega
    case rel=>
     refine ⟨k+1,by omega,by go_num,?_,hq2,ht2⟩
     rw [HTK.out,rdB_snoc]
     exact congrArg _ (or_step _ y)
   ·go_wp2_with fail
    refine cb.mono ?_
    clear cb
    rintro e w2 ⟨hr,-⟩
    have hat:q.at_+k=q.bs.length:=by omega
    obtain ⟨rfl,hb2⟩:=hr hat
    have hb3:RBad w q w2 xb t:=RBad.keep (htr.trans ((Turn.of_below (F:=fun x=>x=q.c) hb1).trans hb2.turn fun x hx=>by
     rcases hx with rfl|rfl
     ·exact .inl rfl
     ·exact .inr (Nat.le_refl _)) fun _ hk=> .inl hk) hxc hxl
    have HAT:=Lib.hid hat
    clear hat
    go_wp2_with fail
    refine ⟨rfl,fun _=>⟨?_,hb3⟩,fun h=> ?_⟩
    ·have e:(q.to (q.at_+k)).at_=q.bs.length:=HAT.out
     rw [e]
    ·have:=HAT.out;omega
  ·have hk8:k=8:=by omega
   subst hk8
   have cc:=hqr.blk.rule
   unfold rcells at cc
   have hcc:(q.to (q.at_+8)).c=q.c:=rfl
   rw [hcc] at cc
   have fx:=hxr.free
   have hn:=i64_of_u64 (rdB ((q.bs.drop q.at_).take 8))
   go_wp2_with fail
   refine bodyPost_end (v:= .tuple #[]) (results_none rfl _ _ _) rfl ⟨fun h=>by omega,fun _=>⟨rfl,?_⟩⟩
   refine ⟨hqr.keep (heap_setCell_other _ _ _ _ (Ne.symm hxc)) ((Below.refl _ _).setCell hxB _),(htr.mono fun _ h=> .inl h).setCell (.inl (.inr rfl)) _,?_⟩
   have:=hxr.set i (.int .i64 (rdB ((q.bs.drop q.at_).take 8)).toInt)
   exact this
end
end Go.Proofs.YtioigihakjlopaaGreat

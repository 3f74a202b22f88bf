/- Texts put together and cut to what is used: ImD7. -/
import Derived.Test.YtioigihakjlopaaGreatVB43
namespace Go.Proofs.YtioigihakjlopaaGreat
set_option linter.unusedVariables false
set_option linter.unusedSimpArgs false
section
open Go.RowKit
set_option maxRecDepth 20000
theorem pairT9:AggT Tryz.prog 157 2:=⟨⟨_,Tryz.underlying157,rfl⟩,by kernel_rfl⟩
def PairsD (w:World) (B':Nat) (q:DC) (X:Nat) (op side place target:Int) (ids:List Int) (idsS:Sl) (k6:Nat) (b6:Int) (N:Nat) (f:Nat) (v7:Value) (wr:World):Prop:=
 ∃(i k:Nat) (b:Int) (a:Option Addr) (c:Nat) (l:List PairL),i+f=N∧v7= .int .i64 (i:Int)∧l.length=i∧(∀x∈l,x.wf)∧Own wr B' 157 2 a i c (l.flatMap PairL.cells)∧
  Blk wr X (actionCells ⟨op,side,place,target,ids,[]⟩ ⟨idsS,⟨a,i,c⟩⟩).toArray 38∧OwnInts wr B' idsS ids∧B'≤wr.heap.size∧QStep w.heap.size w q wr k b∧
  Hid (∀m k' b',After k b (rdMany (rdPair q.bs) f) m k' b'→After k6 b6 (rdPairs q.bs) (l++m) k' b')
theorem own_nilA (W:World) (B:Nat):ActionOwn W B zeroA nilA:=by
 have h0:OwnInts W B nilSl []:=OwnInts.nil _ _
 have h1:OwnPairs W B nilSl []:=OwnPairs.nil _ _
 have hz:wf64 0:=by show (Lit.int .i64 0).wf=true;decide
 have hz8:wf8 0:=by show (Lit.int .i8 0).wf=true;decide
 exact ⟨hz8,hz,hz,hz,h0,h1⟩
set_option maxHeartbeats 4000000 in
theorem readact_d (w:World) (a:Option Addr) (n cap:Nat) (bs:List UInt8) (hb:BytesAt w a bs) (hn:bs.length=n) (hm:n≤1048576):
  Calls Tryz.prog 87 #[.slice a n cap] w fun e w'=>∃h,e= .returned (.tuple #[actionVal (readA bs).1 h,.int .i64 ((readA bs).2.1:Int),.int .i64 (readA bs).2.2])∧ActionOwn w' w.heap.size (readA bs).1 h∧Below w.heap.size w w':=by
 have HN:=Lib.hid hn
 clear hn
 have d0:decide ((1048576:Int)<(n:Int))=false:=by simp;omega
 go_enter Tryz.func87,Tryz.ntmps87
 go_upto_region 1 with (fail)
 obtain ⟨X,hX⟩:∃X,X=w.heap.size:=⟨_,rfl⟩
 rw [←hX]
 refine wp_forget (fun W=>Blk W X (actionCells zeroA nilA).toArray 38∧Below w.heap.size w W) ⟨by rw [hX];exact Blk.new w (actionCells zeroA nilA).toArray _,by (try unfold Kept);repeat (first|assumption|exact Below.refl _ _|exact below_undrew (Below.refl _ _)|exact Below.mono (by assumption) (by first|(simp;done)|(simp;omega)|omega)|refine below_setRow ?_ (by first|(simp;done)|(simp;omega)|omega) _|refine Below.setCell ?_ (by first|(simp;done)|(simp;omega)|omega) _|refine Below.alloc ?_ (by first|(simp;done)|(simp;omega)|omega) _|refine below_drewN ?_ _|refine Below.drew ?_|refine below_undrew ?_|refine below_step ?_ (by assumption))⟩ ?_
 rintro W0 ⟨bx0,hb0⟩
 have hXl:=bx0.lt
 have hgX:w.heap.size≤X:=Nat.le_of_eq hX.symm
 clear hX
 go_upto_region 4 with (fail)
 obtain ⟨C,hC⟩:∃C,C=W0.heap.size:=⟨_,rfl⟩
 rw [←hC]
 refine wp_forget (fun W=>Blk W C #[.slice a n cap,.int .i64 0,.int .i64 (-1)] 191∧Below W0.heap.size W0 W) ⟨by rw [hC];exact Blk.new W0 _ _,by (try unfold Kept);repeat (first|assumption|exact Below.refl _ _|exact below_undrew (Below.refl _ _)|exact Below.mono (by assumption) (by first|(simp;done)|(simp;omega)|omega)|refine below_setRow ?_ (by first|(simp;done)|(simp;omega)|omega) _|refine Below.setCell ?_ (by first|(simp;done)|(simp;omega)|omega) _|refine Below.alloc ?_ (by first|(simp;done)|(simp;omega)|omega) _|refine below_drewN ?_ _|refine Below.drew ?_|refine below_undrew ?_|refine below_step ?_ (by assumption))⟩ ?_
 rintro W1 ⟨hc1,hb1⟩
 have hXC:X≠C:=by omega
 have hwC:w.heap.size≤C:=by have:=hb0.size;omega
 clear hC
 have hbz:BytesAt W1 a bs:=hb.below (below_step hb0 hb1)
 have hlow:InB w.heap.size a bs.length:=fun hp ad ha=>by
  obtain ⟨b',o',e1,e2⟩:=hb 0 (by simpa using hp)
  rw [ha] at e1
  cases e1
  exact World.block_lt_of_cell? w _ e2
 obtain ⟨q,hqd⟩:∃q:DC,q=⟨C,a,cap,bs,0,-1⟩:=⟨_,rfl⟩
 have hB:w.heap.size≤w.heap.size:=Nat.le_refl _
 have s1:QStep w.heap.size w q W1 0 (-1):=by
  subst hqd
  exact ⟨⟨hwC,by show Blk W1 C #[.slice a bs.length cap,_,_] _;rw [HN.out];exact hc1,hbz,hlow,Nat.zero_le _,by show bs.length≤_;rw [HN.out];exact hm,by show (-1:Int)≤-1;decide,by show (-1:Int)≤1048576;decide⟩,Turn.of_below (below_step hb0 hb1)⟩
 have hcc:∀k b,(q.to k b).c=C:=by subst hqd;intros;rfl
 have hXc:X≠q.c:=by subst hqd;exact hXC
 have hqs:q.bs=bs:=by subst hqd;rfl
 have hqC:C=q.c:=by subst hqd;rfl
 have bx1:=bx0.old hb1
 obtain ⟨B',hB'⟩:∃x,x=W1.heap.size:=⟨_,rfl⟩
 have z1:B'≤W1.heap.size:=Nat.le_of_eq hB'
 have hXB:X<B':=by have:=hb1.size;omega
 have hwB:w.heap.size≤B':=by omega
 have hF:∀x,x=q.c→x<B':=fun x hx=>by rw [hx,←hqC,hB'];exact hc1.lt
 have HQS:=Lib.hid hqs
 have HQC:=Lib.hid hqC
 clear hqd bx0 hb0 hb1 hc1 hbz hlow hB' hqs hqC
 have cb:=small_d W1 w.heap.size (q.to 0 (-1)) s1.at' (Nat.le_trans hB s1.turn.size)
 rw [hcc] at cb
 go_wp2_with fail
 refine cb.mono ?_
 clear cb
 rintro e V ⟨op,k2,b2,rfl,f2,t,g2⟩
 have by':=t.blk bx1 hXc
 have fy:=by'.free
 have cy:V.cell? ⟨X,0,none⟩=some (.int .i8 0):=by'.rule 0
 go_upto_region 5 with (fail)
 refine wp_forget (fun W=>Blk W X (actionCells ⟨op,0,0,0,[],[]⟩ ⟨nilSl,nilSl⟩).toArray 38∧QStep w.heap.size w q W k2 b2∧B'≤W.heap.size) ⟨by'.set 0 (.int .i8 op),(s1.trans t).set hB hgX hXc (.int .i8 op),by have:=t.turn.size;simp [World.setRow];omega⟩ ?_
 clear by' t bx1 s1 z1 fy cy
 rintro W2 ⟨bx2,s2,z2⟩
 have cb:=num_d W2 w.heap.size (q.to k2 b2) s2.at' (Nat.le_trans hB s2.turn.size)
 rw [hcc] at cb
 go_wp2_with fail
 refine cb.mono ?_
 clear cb
 rintro e V ⟨m,k3,b3,rfl,t,g3⟩
 have f3:=toInt_wf m
 generalize m.toInt=side at*
 have by':=t.blk bx2 hXc
 have fy:=by'.free
 have cy:V.cell? ⟨X,1,none⟩=some (.int .i64 0):=by'.rule 1
 go_upto_region 6 with (fail)
 refine wp_forget (fun W=>Blk W X (actionCells ⟨op,side,0,0,[],[]⟩ ⟨nilSl,nilSl⟩).toArray 38∧QStep w.heap.size w q W k3 b3∧B'≤W.heap.size) ⟨by'.set 1 (.int .i64 side),(s2.trans t).set hB hgX hXc (.int .i64 side),by have:=t.turn.size;simp [World.setRow];omega⟩ ?_
 clear by' t bx2 s2 z2 fy cy
 rintro W3 ⟨bx3,s3,z3⟩
 have cb:=num_d W3 w.heap.size (q.to k3 b3) s3.at' (Nat.le_trans hB s3.turn.size)
 rw [hcc] at cb
 go_wp2_with fail
 refine cb.mono ?_
 clear cb
 rintro e V ⟨m,k4,b4,rfl,t,g4⟩
 have f4:=toInt_wf m
 generalize m.toInt=place at*
 have by':=t.blk bx3 hXc
 have fy:=by'.free
 have cy:V.cell? ⟨X,2,none⟩=some (.int .i64 0):=by'.rule 2
 go_upto_region 7 with (fail)
 refine wp_forget (fun W=>Blk W X (actionCells ⟨op,side,place,0,[],[]⟩ ⟨nilSl,nilSl⟩).toArray 38∧QStep w.heap.size w q W k4 b4∧B'≤W.heap.size) ⟨by'.set 2 (.int .i64 place),(s3.trans t).set hB hgX hXc (.int .i64 place),by have:=t.turn.size;simp [World.setRow];omega⟩ ?_
 clear by' t bx3 s3 z3 fy cy
 rintro W4 ⟨bx4,s4,z4⟩
 have cb:=num_d W4 w.heap.size (q.to k4 b4) s4.at' (Nat.le_trans hB s4.turn.size)
 rw [hcc] at cb
 go_wp2_with fail
 refine cb.mono ?_
 clear cb
 rintro e V ⟨m,k5,b5,rfl,t,g5⟩
 have f5:=toInt_wf m
 generalize m.toInt=target at*
 have by':=t.blk bx4 hXc
 have fy:=by'.free
 have cy:V.cell? ⟨X,3,none⟩=some (.int .i64 0):=by'.rule 3
 go_upto_region 8 with (fail)
 refine wp_forget (fun W=>Blk W X (actionCells ⟨op,side,place,target,[],[]⟩ ⟨nilSl,nilSl⟩).toArray 38∧QStep w.heap.size w q W k5 b5∧B'≤W.heap.size) ⟨by'.set 3 (.int .i64 target),(s4.trans t).set hB hgX hXc (.int .i64 target),by have:=t.turn.size;simp [World.setRow];omega⟩ ?_
 clear by' t bx4 s4 z4 fy cy
 rintro W5 ⟨bx5,s5,z5⟩
 have cb:=nums_d W5 w.heap.size (q.to k5 b5) s5.at' (Nat.le_trans hB s5.turn.size)
 rw [hcc] at cb
 go_wp2_with fail
 refine cb.mono ?_
 clear cb
 rintro e V ⟨idsS,ids,k6,b6,rfl,on,t,g6⟩
 replace on:=on.lower z5
 have by':=t.blk bx5 hXc
 have fy:=by'.free
 have cy:V.cell? ⟨X,4,none⟩=some (.slice none 0 0):=by'.rule 4
 go_upto_region 9 with (fail)
 refine wp_forget (fun W=>Blk W X (actionCells ⟨op,side,place,target,ids,[]⟩ ⟨idsS,nilSl⟩).toArray 38∧QStep w.heap.size w q W k6 b6∧OwnInts W B' idsS ids∧B'≤W.heap.size) ⟨by'.set 4 (.slice idsS.a idsS.n idsS.c),(s5.trans t).set hB hgX hXc (.slice idsS.a idsS.n idsS.c),(on).set ⟨X,4,none⟩ (.slice idsS.a idsS.n idsS.c) hXB,by have:=t.turn.size;simp [World.setRow];omega⟩ ?_
 clear by' t bx5 s5 z5 fy cy on
 rintro W6 ⟨bx6,s6,oids,z6⟩
 have cb:=count_d W6 w.heap.size (q.to k6 b6) 16 s6.at' (Nat.le_trans hB s6.turn.size) (by decide) (by decide)
 rw [hcc] at cb
 go_wp2_with fail
 refine cb.mono ?_
 clear cb
 rintro e W7 ⟨N,k7,b7,rfl,hN,hN0,t7,g7⟩
 have hst:PairsD w B' q X op side place target ids idsS k6 b6 N N (.int .i64 0) W7:=⟨0,k7,b7,none,0,[],by omega,rfl,rfl,fun x hx=>by simp at hx,Own.nil _ _ _ _,t7.blk bx6 hXc,OwnInts.turn oids t7.turn hF,Nat.le_trans z6 t7.turn.size,s6.trans t7,Lib.hid fun m k' b' h=>g7.list h⟩
 clear g7 bx6 oids z6 s6 t7
 go_wp2_with fail
 go_loopg [7] N (PairsD w B' q X op side place target ids idsS k6 b6 N)
 case atStart=>exact hst
 case round=>
  clear hst
  obtain ⟨i,k,b,a',c,l,hi,rfl,hll,hwf,hown,bx,o1,z,hs,haf⟩:=hrel
  by_cases hlt:i<N
  ·have t0:decide ((i:Int)<(N:Int))=true:=by simp;omega
   go_upto_region 14 with (fail)
   obtain ⟨Y,hY⟩:∃x,x=wr.heap.size:=⟨_,rfl⟩
   rw [←hY]
   refine wp_forget (fun W=>Blk W Y #[.int .i64 0,.int .i64 0] 157∧Below wr.heap.size wr W) ⟨by rw [hY];exact Blk.new _ _ _,by (try unfold Kept);repeat (first|assumption|exact Below.refl _ _|exact below_undrew (Below.refl _ _)|exact Below.mono (by assumption) (by first|(simp;done)|(simp;omega)|omega)|refine below_setRow ?_ (by first|(simp;done)|(simp;omega)|omega) _|refine Below.setCell ?_ (by first|(simp;done)|(simp;omega)|omega) _|refine Below.alloc ?_ (by first|(simp;done)|(simp;omega)|omega) _|refine below_drewN ?_ _|refine Below.drew ?_|refine below_undrew ?_|refine below_step ?_ (by assumption))⟩ ?_
   rintro Wa ⟨ya,hba⟩
   have hYB:B'≤Y:=by omega
   have hYX:Y≠X:=by omega
   have hYc:Y≠q.c:=fun h=>by have:=hF Y h;omega
   have sa:QStep w.heap.size w q Wa k b:=⟨hs.at'.old hba (Nat.le_trans hB hs.turn.size),hs.turn.trans (Turn.of_below (F:=fun x=>x=q.c) hba) fun x hx=> .inl hx⟩
   replace bx:=bx.old hba
   replace o1:=OwnInts.old o1 hba
   have hYo:∀x:Addr,a'=some x→x.block≠Y:=fun x hx=>by have:=(hown.block_lt hx).2.1;omega
   replace hown:=hown.old hba
   have za:B'≤Wa.heap.size:=Nat.le_trans z hba.size
   clear hY hs z hba
   have cb:=num_d Wa w.heap.size (q.to k b) sa.at' (Nat.le_trans hB sa.turn.size)
   rw [hcc] at cb
   go_wp2_with fail
   refine cb.mono ?_
   clear cb
   rintro e Vb ⟨m,kb,bb,rfl,t,hb⟩
   have wfb:=toInt_wf m
   generalize m.toInt=u at*
   have yv:=t.blk ya hYc
   replace bx:Blk (Vb.setCell ⟨Y,0,none⟩ (.int .i64 u)) X _ _:=(heap_setCell_other _ _ _ _ (Ne.symm hYX)).trans (t.blk bx hXc)
   replace o1:=OwnInts.setApart (OwnInts.turn o1 t.turn hF) yv (by decide) 0 (.int .i64 u)
   replace hown:=(Own.turn hown t.turn hF).keepAt (w':=(Vb.setCell ⟨Y,0,none⟩ (.int .i64 u))) fun x hx=>heap_setCell_other _ _ _ _ (hYo x hx)
   have fy:=yv.free
   have cy:Vb.cell? ⟨Y,0,none⟩=some (.int .i64 0):=yv.rule 0
   have yb:=yv.set 0 (.int .i64 u)
   have sb:=(sa.trans t).set (i:=0) hB (Nat.le_trans hwB hYB) hYc (.int .i64 u)
   have zb:B'≤(Vb.setCell ⟨Y,0,none⟩ (.int .i64 u)).heap.size:=by have:=t.turn.size;simp;omega
   clear sa ya za yv t
   go_wp2_with fail
   obtain ⟨Wb,hW⟩:∃W,W=Vb.setCell ⟨Y,0,none⟩ (.int .i64 u):=⟨_,rfl⟩
   rw [←hW] at bx yb sb zb o1 hown⊢
   clear hW fy cy
   have cb:=num_d Wb w.heap.size (q.to kb bb) sb.at' (Nat.le_trans hB sb.turn.size)
   rw [hcc] at cb
   refine cb.mono ?_
   clear cb
   rintro e Vc ⟨m,kc,bc,rfl,t,hc⟩
   have wfc:=toInt_wf m
   generalize m.toInt=v at*
   have yv:=t.blk yb hYc
   replace bx:Blk (Vc.setCell ⟨Y,1,none⟩ (.int .i64 v)) X _ _:=(heap_setCell_other _ _ _ _ (Ne.symm hYX)).trans (t.blk bx hXc)
   replace o1:=OwnInts.setApart (OwnInts.turn o1 t.turn hF) yv (by decide) 1 (.int .i64 v)
   replace hown:=(Own.turn hown t.turn hF).keepAt (w':=(Vc.setCell ⟨Y,1,none⟩ (.int .i64 v))) fun x hx=>heap_setCell_other _ _ _ _ (hYo x hx)
   have fy:=yv.free
   have cy:Vc.cell? ⟨Y,1,none⟩=some (.int .i64 0):=yv.rule 1
   have yc:=yv.set 1 (.int .i64 v)
   have sc:=(sb.trans t).set (i:=1) hB (Nat.le_trans hwB hYB) hYc (.int .i64 v)
   have zc:B'≤(Vc.setCell ⟨Y,1,none⟩ (.int .i64 v)).heap.size:=by have:=t.turn.size;simp;omega
   clear sb yb zb yv t
   go_upto_region 16 with (fail)
   obtain ⟨Wc,hW⟩:∃W,W=Vc.setCell ⟨Y,1,none⟩ (.int .i64 v):=⟨_,rfl⟩
   rw [←hW] at bx yc sc zc o1 hown⊢
   clear hW fy cy
   have fx:=bx.free
   have cx5:Wc.cell? ⟨X,5,none⟩=some (.slice a' i c):=bx.rule 5
   obtain ⟨gf,hgf⟩:∃x,gk=x+1:=⟨gk-1,by omega⟩
   have haf6:=haf.out
   rw [hgf] at haf6
   have HAF:=Lib.hid (show ∀m k' b',After kc bc (rdMany (rdPair q.bs) gf) m k' b'→After k6 b6 (rdPairs q.bs) ((l++ [⟨u,v⟩])++m) k' b' from fun m k' b' h=>by
    rw [List.append_assoc]
    exact haf6 _ _ _ (After.many (After.seq hb (After.seq hc (After.ret sc.at'.lo))) h))
   clear haf6 haf hb hc
   have hA:=hown.alloc (.cells #[.int .i64 u,.int .i64 v] 157)
   go_wp2_with (first|refine wpList_load_blk rfl 157 pairT9 (.tmp 8) rfl rfl yc rfl ?_|(at_builtin;refine wpList_append_row rfl _ _ 36 rfl pairsT2 rfl hA rfl (RowAt.new' _ _ _ _ (by rfl)) (by rfl) (by intro u hu;simp at hu;rcases hu with rfl|rfl<;>rfl) (by unfold maxLen;omega) (by omega) (by simp;omega) ?_))
   intro a6 c6 w6 hown6 hg6
   have hal:Below Wc.heap.size Wc (Wc.alloc (.cells #[.int .i64 u,.int .i64 v] 157)):=(Below.refl _ _).alloc (Nat.le_refl _) _
   have hb6:Below B' Wc w6:=hA.grown (hal.mono zc) (Nat.le_refl _) hg6 (by simp;omega)
   have s6:=(sc.alloc hB (.cells #[.int .i64 u,.int .i64 v] 157)).grown hB (hA.lower hwB) hg6 (by decide)
   replace bx:Blk w6 X _ _:=(hb6.block X hXB).trans bx
   replace o1:=(OwnInts.apart (OwnInts.old o1 hal) hA (by decide) hg6).set ⟨X,5,none⟩ (.slice a6 (i+1) c6) hXB
   have z6:B'≤w6.heap.size:=Nat.le_trans zc hb6.size
   have fx6:=bx.free
   have cy6:w6.cell? ⟨X,5,none⟩=some (.slice a' i c):=bx.rule 5
   have hown7:=hown6.setCell_lt ⟨X,5,none⟩ (.slice a6 (i+1) c6) hXB
   have bx7':=bx.set 5 (.slice a6 (i+1) c6)
   have s7':=s6.set (i:=5) hB hgX hXc (.slice a6 (i+1) c6)
   clear cx5 fx hA hal hb6 hg6 yc hown sc zc hown6
   go_wp2_with fail
   go_roundg gf
   case measure=>omega
   case rel=>
    refine ⟨i+1,kc,bc,a6,c6,l++ [⟨u,v⟩],by omega,by go_num,by simp [hll],?_,by simpa [PairL.cells] using hown7,bx7',o1,by simpa using z6,s7',HAF⟩
    intro x hx
    rcases List.mem_append.1 hx with hx|hx
    ·exact hwf x hx
    ·rw [List.mem_singleton.1 hx];exact ⟨wfb,wfc⟩
  ·have t0:decide ((i:Int)<(N:Int))=false:=by simp;omega
   have hg0:gk=0:=by omega
   have haf6:=haf.out
   rw [hg0] at haf6
   have haf7:=haf6 [] k b (After.none hs.at'.lo)
   rw [List.append_nil] at haf7
   have hall:After 0 (-1) (rdAction bs) ⟨op,side,place,target,ids,l⟩ k b:=by
    rw [←HQS.out]
    exact After.seq g2 (After.seq g3 (After.seq g4 (After.seq g5 (After.seq g6 (After.seq haf7 (After.ret hs.at'.lo))))))
   replace bx:Blk wr X (actionCells ⟨op,side,place,target,ids,l⟩ ⟨idsS,⟨a',i,c⟩⟩).toArray 38:=bx
   clear haf haf6 haf7
   clear g2 g3 g4 g5 g6
   have cb:=end_d wr w.heap.size (q.to k b) hs.at' (Nat.le_trans hB hs.turn.size)
   rw [hcc,endB_to,HQS.out] at cb
   have has:∀(ad:Addr) (w:World),(asAddr (.pointer (some ad))).run Tryz.prog w= .ok ad w:=fun _ _=>rfl
   have hwh:=hall.whole
   clear hall
   generalize endK bs.length k b=E at cb hwh
   rcases hwh with ⟨hE,hr⟩|⟨hE,p,rfl,hr⟩
   ·have d1:decide (E<0)=true:=by simpa using hE
    rw [d1] at cb
    have HR:=Lib.hid (show readA bs=(⟨op,side,place,target,ids,l⟩,0,0) by unfold readA;rw [hr])
    clear hr hE
    go_wp2_with fail
    refine cb.mono ?_
    clear cb
    rintro e V ⟨rfl,t⟩
    have by':=t.blk bx hXc
    have hself:=setRow_same by'
    have hst:=hs.trans t
    have ou:OwnPairs wr B' ⟨a',i,c⟩ l:=⟨hown,hown.row,hll,hown.le,hown.cap_le,by dsimp only;omega,hwf⟩
    have own:ActionOwn V B' ⟨op,side,place,target,ids,l⟩ ⟨idsS,⟨a',i,c⟩⟩:=⟨f2,f3,f4,f5,OwnInts.turn o1 t.turn hF,OwnPairs.turn ou t.turn hF⟩
    clear t hs bx o1 hown
    go_wp2_with (first|refine wpList_load_blk rfl 38 actionT (.tmp 2) rfl rfl by' rfl ?_|(refine wpList_store_blk rfl 38 actionT (.tmp 2) _ rfl rfl rfl by' rfl rfl rfl ?_;rw [hself]))
    have cx:(loadVar 38 ⟨X,0,none⟩).run Tryz.prog V= .ok (actionVal ⟨op,side,place,target,ids,l⟩ ⟨idsS,⟨a',i,c⟩⟩) V:=run_load_cells actionT (cs:=actionCells ⟨op,side,place,target,ids,l⟩ ⟨idsS,⟨a',i,c⟩⟩) (fun j hj=>by rw [Nat.zero_add,by'.rule j];simp [hj]) rfl
    refine bodyPost_ret (v:= .tuple #[actionVal ⟨op,side,place,target,ids,l⟩ ⟨idsS,⟨a',i,c⟩⟩,.int .i64 0,.int .i64 0]) ?_ rfl ?_
    ·simp [results,Tryz.results87,has,cx]
    ·rw [HR.out]
     exact ⟨⟨idsS,⟨a',i,c⟩⟩,rfl,own.lower hwB,hst.turn.below (fun x hx=>by subst hx;rw [←HQC.out];exact hwC) hB⟩
   ·have d1:decide ((p:Int)<0)=false:=by simp
    rw [d1] at cb
    have HR:=Lib.hid (show readA bs=(zeroA,p,180) by unfold readA;rw [hr])
    clear hr hE
    go_wp2_with fail
    refine cb.mono ?_
    clear cb
    rintro e V ⟨rfl,t⟩
    have by':=t.blk bx hXc
    have hst:=hs.trans t
    clear t hs bx o1 hown
    go_upto_region 18 with (fail)
    have hcd:Blk V C (qcells (q.to k (p:Int))) 191:=by rw [HQC.out];exact hst.at'.blk
    refine wp_region_treeR false (KeepAt (fun x=>x=C)) (KeepAt.refl _) (fun _ _ _ h1 h2=>KeepAt.trans h1 h2) (.step 0 (.step 1 (.step 2 (.step 3 (.step 4 (.step 5 (.step 6 (.step 7 .done)))))))) (by kernel_rfl) (by kernel_rfl) (fun c a d v w h=>by cases d<;>exact h) ?_
    have kc:∀W,KeepAt (fun x=>x=C) V.drew W→∀i,W.cell? ⟨C,i,none⟩=(qcells (q.to k (p:Int)))[i]? :=fun W hW=>(show Blk W C _ _ from (hW.2 _ rfl).trans hcd).rule
    unfold qcells DC.to at kc
    dsimp only at kc
    repeat (first|(refine tree_skip rfl (by rfl) ?_;simp only [Act.put,List.setIfInBounds_toArray,List.set])|(refine tree_quiet (v:= ?_) rfl rfl (by rfl) ?_ ?_;rotate_left;(intro W hW;go_simp);(try with_reducible rfl);simp only [Act.put,List.setIfInBounds_toArray,List.set]))
    refine tree_loud rfl rfl (by rfl) (fun K hK=> ?_)
    refine wp_store_at (cells:=(actionCells zeroA nilA).toArray) 38 actionT _ _ rfl rfl rfl by'.drew rfl (by first|(show 0+23≤23;omega)|(show 0+6≤6;omega)) rfl ?_
    obtain ⟨cs0,hcs0⟩:∃cs,cs=splice (actionCells ⟨op,side,place,target,ids,l⟩ ⟨idsS,⟨a',i,c⟩⟩).toArray 0 (actionCells zeroA nilA).toArray:=⟨_,rfl⟩
    rw [←hcs0]
    have hx2:Blk (V.drew.setRow X cs0) X cs0 38:=by'.drew.setRow cs0
    have hb2:∀x,x≠X→(V.drew.setRow X cs0).heap[x]? =V.heap[x]? :=fun x hx=>Go.setRow_other _ _ _ _ hx
    have hbV:Below w.heap.size w V:=hst.turn.below (fun x hx=>by subst hx;rw [←HQC.out];exact hwC) hB
    have hb3:Below w.heap.size w (V.drew.setRow X cs0):=below_setRow hbV.drew hgX _
    have hsz:V.heap.size≤(V.drew.setRow X cs0).heap.size:=by simp [World.setRow]
    obtain ⟨w2,hw2⟩:∃W,W=V.drew.setRow X cs0:=⟨_,rfl⟩
    rw [←hw2] at hx2 hb2 hb3 hsz⊢
    clear hw2
    have hcs:cs0=(actionCells zeroA nilA).toArray:=by rw [hcs0];rfl
    rw [hcs] at hx2
    clear hcs0 hcs
    refine hK _ _ ⟨hsz,fun x hx=>hb2 x (by rw [show x=C from hx];exact Ne.symm hXC)⟩ ?_
    clear hK K
    repeat (first|(refine tree_skip rfl (by rfl) ?_;simp only [Act.put,List.setIfInBounds_toArray,List.set])|(refine tree_quiet (v:= ?_) rfl rfl (by rfl) ?_ ?_;rotate_left;(intro W hW;go_simp);(try with_reducible rfl);simp only [Act.put,List.setIfInBounds_toArray,List.set]))
    refine tree_done ?_
    go_wp2_with fail
    have cx:(loadVar 38 ⟨X,0,none⟩).run Tryz.prog w2= .ok (actionVal zeroA nilA) w2:=run_load_cells actionT (cs:=actionCells zeroA nilA) (fun j hj=>by rw [Nat.zero_add,hx2.rule j];simp [hj]) rfl
    refine bodyPost_ret (v:= .tuple #[actionVal zeroA nilA,.int .i64 (p:Int),.int .i64 180]) ?_ rfl ?_
    ·simp [results,Tryz.results87,has,cx]
    ·rw [HR.out]
     exact ⟨nilA,rfl,own_nilA _ _,hb3⟩
end
end Go.Proofs.YtioigihakjlopaaGreat

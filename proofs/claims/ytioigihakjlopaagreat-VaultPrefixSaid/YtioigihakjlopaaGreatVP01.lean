/- Texts put together and cut to what is used: CamePlan, VCameP, VPrefQ, VaultPrefix. -/
import Derived.Test.YtioigihakjlopaaGreatVK52
namespace Go.Proofs.YtioigihakjlopaaGreat
set_option linter.unusedVariables false
set_option linter.unusedSimpArgs false
section
open Go.ChangeShapes Go.WideShapes Go.ChangeAt Go.RowKit
section
variable {H:Type} {enc:TypeId×Value→H} {P:Program} {w:World}
theorem Came.str {t:TypeId} {c:Value} (h:Came enc P w t [c]) (hs:P.underlying t=some .string):∃s:ByteArray,c= .string s∧s.size≤140737488351232:=by
 obtain ⟨n,x,h1,h2⟩:=h
 obtain ⟨s,hc,hx,_⟩:=DataW.trod_string hs h1
 simp at hc
 refine ⟨s,hc,?_⟩
 have:=h2 s.data.toList.length (by rw [hx];simp [DataW.weights])
 rw [Array.length_toList] at this
 exact this
end
section
variable {H:Type} {enc:TypeId×Value→H} {w:World}
set_option maxRecDepth 20000 in
theorem came_piece {cs:List Value} (h:Came enc Tryz.prog w 130 cs) (hl:cs.length=2):∃y:Name×Int,cs=pieceV y∧y.1.size≤140737488351232:=by
 have f0:=h.field Tryz.underlying130 0 (by decide)
 have f1:=h.field Tryz.underlying130 1 (by decide)
 have k0:Tryz.prog.cellsOf 9=1:=by kernel_rfl
 have k1:Tryz.prog.cellsOf 3=1:=by kernel_rfl
 match cs,hl with
 | [c0,c1],_=>
  simp [k0,k1] at f0 f1
  obtain ⟨s,rfl,hs⟩:=f0.str Tryz.underlying9
  obtain ⟨n,rfl,_⟩:=f1.int Tryz.underlying3
  exact ⟨(s,n),rfl,hs⟩
theorem Came.plan {c:Value} (h:Came enc Tryz.prog w 47 [c]):∃a cp,∃l:PlanP,c= .slice a l.length cp∧RowAt w a (l.flatMap pieceV)∧l.length*24≤140737488355328:=by
 obtain ⟨a,len,cap,rfl,h1,h2,h3,h4,h5⟩:=h.slice Tryz.underlying47
 obtain ⟨l,hl,hr,_⟩:=came_row (g:=pieceV) (Ok:=fun y=>y.1.size≤140737488351232) (fun _=>rfl) (show 0<2 by omega) (show Tryz.prog.cellsOf 130=2 by kernel_rfl) (fun cs hc hlen=>came_piece hc hlen) h3 h5
 have hb:Tryz.prog.bytesOf 130=24:=by kernel_rfl
 rw [hb] at h4
 exact ⟨a,cap,l,by rw [hl],hr,by omega⟩
end
end
section
open Go.ChangeShapes Go.WideShapes Go.ChangeAt Go.RowKit
section
variable {H:Type} {enc:TypeId×Value→H} {w:World}
def PlanRow27 (w:World) (a:Option Addr) (n c:Nat) (l:PlanP):Prop:=RowAt w a (l.flatMap pieceV)∧l.length=n∧n*24≤140737488355328
theorem came_plan27 {v:Value} (h:Came enc Tryz.prog w 47 [v]):∃a n c l,v= .slice a n c∧PlanRow27 w a n c l:=by
 obtain ⟨a,cp,l,rfl,h1,h2⟩:=h.plan
 exact ⟨a,l.length,cp,l,rfl,h1,rfl,h2⟩
end
end
section
open Go.RowKit
set_option maxRecDepth 20000
theorem take_all (m:List UInt8) (l:List DeedP):(loadsOf m l).take l.length=loadsOf m l:=List.take_of_length_le (by rw [loadsOf_length];exact Nat.le_refl _)
theorem g_whole {m:List UInt8} {l:List DeedP} {lf:Int} {pl:PlanP} (hg:GoodD l) (hz:∀x∈l,(bytesD x).length≤30000) (hl:l.length≤4096):
  vopE (onG (records (loadsOf m l)) (records (loadsOf m l)).length lf pl) nmJ m=0∧vopL (onG (records (loadsOf m l)) (records (loadsOf m l)).length lf pl) nmJ m=l∧
   vopD (onG (records (loadsOf m l)) (records (loadsOf m l)).length lf pl) nmJ m=onG (records (loadsOf m l)) (records (loadsOf m l)).length lf pl∧vopN (onG (records (loadsOf m l)) (records (loadsOf m l)).length lf pl) nmJ m=0:=by
 have q:=g_vopen (m:=m) (l:=l) (c:=(records (loadsOf m l)).length) (k:=l.length) (lf:=lf) (pl:=pl) (Nat.le_refl _) hz hl (by rw [take_all,List.take_length];exact scan_loads m hg hz) (by rw [take_all];exact Nat.le_refl _) (fun h=>absurd h (Nat.lt_irrefl _)) (Nat.le_refl _)
 rw [take_all,List.take_length,List.take_length] at q
 exact ⟨q.1,q.2.1,q.2.2.1,q.2.2.2 rfl⟩
def AfterP (m:List UInt8) (l last:List DeedP) (q:DiskP):Prop:=
 ∃got lf pl,(got=l∨(got=l++last∧last.length=1))∧got.length≤l.length+1∧vopE q nmJ m=0∧vopL q nmJ m=got∧vopD q nmJ m=onG (records (loadsOf m got)) (records (loadsOf m got)).length lf pl∧
  vopE (vopD q nmJ m) nmJ m=0∧vopL (vopD q nmJ m) nmJ m=got∧vopN (vopD q nmJ m) nmJ m=0
theorem PInv.after {p:DiskP} {V:VaultR} {last:List DeedP} (h:PInv p V last) (plan:PlanP) (hg:GoodD V.l) (hl:V.l.length≤4000):AfterP V.m V.l last (openP (crashAll p plan).1).1:=by
 rcases h.st with ⟨hd,hlast,hlo,lf,pl,hp⟩|⟨hd,x,c,lf,pl,hlast,hmay,hfol,hk,hzx,hc1,hc2,hp⟩
 ·have hq:(openP (crashAll p plan).1).1=onG (records (loadsOf V.m V.l)) (records (loadsOf V.m V.l)).length lf pl:=by
   rw [hp]
   have hkn:=keepN_le plan ⟨nmJ,records (loadsOf V.m V.l),(records (loadsOf V.m V.l)).length⟩ (Nat.le_refl _)
   have h0:keepN plan ⟨nmJ,records (loadsOf V.m V.l),(records (loadsOf V.m V.l)).length⟩=0:=by
    have:(records (loadsOf V.m V.l)).length+keepN plan ⟨nmJ,records (loadsOf V.m V.l),(records (loadsOf V.m V.l)).length⟩≤(records (loadsOf V.m V.l)).length:=hkn
    omega
   simp [crashAll,crashP,openP,crashF,h0,onG]
  obtain ⟨q1,q2,q3,q4⟩:=g_whole (m:=V.m) (lf:=lf) (pl:=pl) hg h.sz (by omega)
  rw [hq]
  exact ⟨V.l,lf,pl,.inl rfl,by omega,q1,q2,q3,by rw [q3];exact q1,by rw [q3];exact q2,by rw [q3];exact q4⟩
 ·have hq:(openP (crashAll p plan).1).1=onG ((records (loadsOf V.m (V.l++ [x]))).take c) c lf pl:=by
   rw [hp,loadsOf_snoc]
   simp [crashAll,openP,onG]
  have hzz:∀y∈V.l++ [x],(bytesD y).length≤30000:=fun y hy=>by
   rcases List.mem_append.1 hy with hy|hy
   ·exact h.sz y hy
   ·rw [List.mem_singleton.1 hy];exact hzx
  have hgg:GoodD (V.l++ [x]):= .snoc hg hmay hfol hk
  rw [←loadsOf_snoc] at hc2
  have ht:(loadsOf V.m (V.l++ [x])).take V.l.length=loadsOf V.m V.l:=by
   rw [loadsOf_snoc,List.take_append_of_le_length (by rw [loadsOf_length];exact Nat.le_refl _),take_all]
  rw [hq,hlast]
  by_cases hfull:c=(records (loadsOf V.m (V.l++ [x]))).length
  ·obtain ⟨q1,q2,q3,q4⟩:=g_whole (m:=V.m) (lf:=lf) (pl:=pl) hgg hzz (by simp;omega)
   rw [hfull,List.take_length]
   exact ⟨V.l++ [x],lf,pl,.inr ⟨rfl,rfl⟩,by simp,q1,q2,q3,by rw [q3];exact q1,by rw [q3];exact q2,by rw [q3];exact q4⟩
  ·have q:=g_vopen (m:=V.m) (l:=V.l++ [x]) (c:=c) (k:=V.l.length) (lf:=lf) (pl:=pl) (by simp) hzz (by simp;omega) (by rw [ht,List.take_left];exact scan_loads V.m hg h.sz) (by rw [ht];exact hc1) (fun _=>by
    rw [List.take_of_length_le (by rw [loadsOf_length];simp)]
    omega) hc2
   rw [ht,List.take_left] at q
   obtain ⟨q1,q2,q3,q4⟩:=g_whole (m:=V.m) (lf:=lf) (pl:=pl) hg h.sz (by omega)
   exact ⟨V.l,lf,pl,.inl rfl,by omega,q.1,q.2.1,q.2.2.1,by rw [q.2.2.1];exact q1,by rw [q.2.2.1];exact q2,by rw [q.2.2.1];exact q4⟩
end
section
open Go.RowKit Go.Maps
set_option maxRecDepth 20000
structure DeedsMix (w:World) (B:Nat) (a:Option Addr) (n c:Nat) (ds:List (DeedP×DeedH)):Prop where
 row:Own w B 40 15 a n c (dcells ds)
 len:ds.length=n
def Px1 (w:World) (d v:Nat) (m:List UInt8) (args:List (DeedP×DeedH)) (n f:Nat) (sure last i:Value) (wr:World):Prop:=
 ∃(k:Nat) (r:DiskR) (V:VaultR) (sa la:Option Addr) (sn sc ln lc:Nat) (ss ls:List (DeedP×DeedH)),k+f=n∧i= .int .i64 (k:Int)∧VL wr w.heap.size r V∧r.d=d∧V.v=v∧V.m=m∧V.ds.length≤k∧
  sure= .slice sa sn sc∧last= .slice la ln lc∧DeedsMix wr w.heap.size sa sn sc ss∧DeedsMix wr w.heap.size la ln lc ls∧(∀x∈ss,x∈args)∧(∀x∈ls,x∈args)∧plainD ss=V.l∧ln≤1∧
  (∀x,afoot r V x→¬atB sa x∧¬atB la x)∧(∀x,atB sa x→¬atB la x)∧PInv r.p V (plainD ls)∧Below w.heap.size w wr
theorem put_len2 {p:DiskP} {V V':VaultR} {x:DeedP} (h:V'.l=(if putE p V x=0 then V.l++ [x] else V.l)):V'.ds.length≤V.ds.length+1:=by
 rw [←VaultR.len,←VaultR.len,h]
 split
 ·simp
 ·omega
theorem wpList_append_where {P:Program} {w:World} {ops:Array Oper} {rest:List Oper} {o:Oper} {a:Act} {Q:Exit→Act→World→Prop} (hgd:o.guard=none) (s x:Operand) (t:TypeId) (ho:o.op= .call {callee:= .builtin .append,args:= #[s,x],argTypes:= #[t,t]})
  {e:TypeId} {size bytes:Nat} (hT:RowType P t e size bytes) {B:Nat} {sa:Option Addr} {n sc:Nat} {xs:List Value} (hs:a.eval s= .slice sa n sc) (hown:Own w B e size sa n sc xs)
  {xa:Option Addr} {m xc:Nat} {news:List Value} (hx:a.eval x= .slice xa m xc) (hrow:RowAt w xa news) (hl:news.length=m*size) (hm:0<m) (h1:∀u∈news,u.oneCell'=true)
  (h63:n+m≤maxLen) (hbytes:(n+m)*bytes≤140737488355328) (hbase:B≤w.heap.size)
  (h:∀b c' w',Own w' B e size (some ⟨b,0,none⟩) (n+m) c' (xs++news)→w.grownBy w' (Value.slice sa n sc).ownBlock→((∃ad,sa=some ad∧b=ad.block)∨w.heap.size≤b)→wpList P ops Q rest (a.put o.dst (.slice (some ⟨b,0,none⟩) (n+m) c')) w'):
  wpList P ops Q (o::rest) a w:=
 wpList_plain hgd fun _ hK=>wp_append_where s x t ho hT hs hown hx hrow hl hm h1 h63 hbytes hbase fun b c' w' q1 q2 q3=>hK _ _ (h b c' w' q1 q2 q3)
theorem wpList_append_roww {P:Program} {w:World} {ops:Array Oper} {rest:List Oper} {o:Oper} {a:Act} {Q:Exit→Act→World→Prop} (hw:Region.wanted o (yielded ops a.tmps)=true) (s x:Operand) (t:TypeId)
  (ho:o.op= .call {callee:= .builtin .append,args:= #[s,x],argTypes:= #[t,t]}) {e:TypeId} {size bytes:Nat} (hT:RowType P t e size bytes)
  {B:Nat} {sa:Option Addr} {n sc:Nat} {xs:List Value} (hs:a.eval s= .slice sa n sc) (hown:Own w B e size sa n sc xs)
  {xa:Option Addr} {m xc:Nat} {news:List Value} (hx:a.eval x= .slice xa m xc) (hrow:RowAt w xa news) (hl:news.length=m*size) (h1:∀u∈news,u.oneCell'=true)
  (h63:n+m≤maxLen) (hbytes:(n+m)*bytes≤140737488355328) (hbase:B≤w.heap.size)
  (h:∀a' c' w',Own w' B e size a' (n+m) c' (xs++news)→w.grownBy w' (Value.slice sa n sc).ownBlock→wpList P ops Q rest (a.put o.dst (.slice a' (n+m) c')) w'):wpList P ops Q (o::rest) a w:=by
 unfold wpList
 rw [if_pos hw]
 exact .inl (wp_append_row s x t ho hT hs hown hx hrow hl h1 h63 hbytes hbase h)
theorem dcells_one (ds:List (DeedP×DeedH)):∀u∈dcells ds,u.oneCell'=true:=fun u hu=>by
 obtain ⟨x,_,hx⟩:=List.mem_flatMap.1 hu
 exact all_one (deedCells x.1 x.2) rfl u hx
theorem DeedsOwn.keep2 {w w':World} {B:Nat} {a:Option Addr} {c:Nat} {ds:List (DeedP×DeedH)} (h:DeedsOwn w B a c ds) (hk:∀x,B≤x→x<w.heap.size→w'.heap[x]? =w.heap[x]?):DeedsOwn w' B a c ds:=
 ⟨h.row.keepAt fun ad e=>hk _ (h.row.block_lt e).1 (h.row.block_lt e).2.1,fun x hx=>(h.each x hx).keepB fun y hy=>hk y ((h.each x hx).innerLt hy).1 ((h.each x hx).innerLt hy).2.1⟩
theorem grow_apart {W W2:World} {B:Nat} {r:DiskR} {V:VaultR} {o:Obj} {sa la:Option Addr} {sn sc ln lc b:Nat} {us:List Value} (hV:VL W B r V) (hl:Own W B 40 15 la ln lc us)
  (hA:∀x,afoot r V x→¬atB sa x∧¬atB la x) (hB:∀x,atB sa x→¬atB la x) (hg:(W.alloc o).grownBy W2 (Value.slice sa sn sc).ownBlock) (hbw:(∃ad,sa=some ad∧b=ad.block)∨(W.alloc o).heap.size≤b):
  VL W2 B r V∧Own W2 B 40 15 la ln lc us∧(∀x,afoot r V x→¬atB (some ⟨b,0,none⟩) x∧¬atB la x)∧(∀x,atB (some ⟨b,0,none⟩) x→¬atB la x):=by
 have keep:∀y,y<W.heap.size→¬atB sa y→W2.heap[y]? =W.heap[y]? :=fun y hy hn=>by
  refine (hg.block y (by simp;omega) fun e=> ?_).trans (Below.heap_alloc _ _ _ hy)
  cases ha:sa with
  |none=>rw [ha] at e;cases e
  |some ad=>
   rw [ha] at e
   simp [Value.ownBlock] at e
   exact hn ⟨ad,ha,e⟩
 have hbn:∀y,y<W.heap.size→atB (some ⟨b,0,none⟩) y→atB sa y:=fun y hy ⟨ad,e,hyb⟩=>by
  cases e
  rcases hbw with ⟨ad,e,hb⟩|hb
  ·exact ⟨ad,e,hyb.trans hb⟩
  ·simp at hb
   have:y=b:=hyb
   omega
 refine ⟨hV.keep fun x hx=>keep x (hV.lt hx).2 (hA x hx).1,hl.keepAt fun ad e=>keep _ (hl.block_lt e).2.1 fun h=>hB _ h ⟨ad,e,rfl⟩,fun x hx=>⟨fun h=>(hA x hx).1 (hbn x (hV.lt hx).2 h),(hA x hx).2⟩,fun x hx h=> ?_⟩
 obtain ⟨ad,e,hxb⟩:=h
 have hlt:=(hl.block_lt e).2.1
 exact hB x (hbn x (by rw [hxb];exact hlt) hx) ⟨ad,e,hxb⟩
theorem grow_fin {w w9 w10:World} {B7:Nat} {r:DiskR} {sa aG:Option Addr} {sn sc cG:Nat} {vs:List Value} {gs:List (DeedP×DeedH)} (hs:Own w9 w.heap.size 40 15 sa sn sc vs) (hb:Below w.heap.size w w9) (hd:DiskAt w9 w.heap.size r) (hg:DeedsOwn w9 B7 aG cG gs)
  (hA:∀x,foot r x→¬atB sa x) (hS:∀x,atB sa x→x<B7) (hgr:w9.grownBy w10 (Value.slice sa sn sc).ownBlock):Below w.heap.size w w10∧DiskAt w10 w.heap.size r∧DeedsOwn w10 B7 aG cG gs:=by
 have keep:∀y,y<w9.heap.size→¬atB sa y→w10.heap[y]? =w9.heap[y]? :=fun y hy hn=>hgr.block y hy fun e=>by
  cases ha:sa with
  |none=>rw [ha] at e;cases e
  |some ad=>
   rw [ha] at e
   simp [Value.ownBlock] at e
   exact hn ⟨ad,ha,e⟩
 exact ⟨hs.grown hb (Nat.le_refl _) hgr hb.size,hd.keep fun x hx=>keep x (hd.lt hx).2 (hA x hx),hg.keep2 fun x h1 h2=>keep x h2 fun h=>by have:=hS x h;omega⟩
set_option maxHeartbeats 8000000 in
theorem vaultPrefix_any (ma:Option Addr) (mn mc:Nat) (m:List UInt8) (a:Option Addr) (n c:Nat) (ds:List (DeedP×DeedH)) (z:Int) (pa:Option Addr) (pn pc:Nat) (plan:PlanP) (w:World) (hma:BytesAt w ma m) (hml:m.length=mn) (hd:DeedRow w a n c ds)
  (hz: -9223372036854775808≤z∧z≤9223372036854775807) (hpa:RowAt w pa (plan.flatMap pieceV)) (hpl:plan.length=pn) (hpz:pn*24≤140737488355328):
  Calls Tryz.prog 4 #[.slice ma mn mc,.slice a n c,.int .i64 z,.slice pa pn pc] w fun e w'=>e= .returned (.bool true)∧Below w.heap.size w w':=by
 obtain ⟨hda,hdl,hdc,hdm⟩:=hd
 have HDL:=Lib.hid hdl
 have HPL:=Lib.hid hpl
 clear hdl hpl
 by_cases hn:n≤40
 rotate_left 1
 ·have t0:decide ((n:Int)>40)=true:=by simp;omega
  have t1:decide ((40:Int)<(n:Int))=true:=by simp;omega
  go_enter Tryz.func4,Tryz.ntmps4
  go_wp2_with fail
  refine (vwakes_any _).mono ?_
  rintro e wz ⟨rfl,hbz⟩
  have hbwz:Below w.heap.size w wz:=(Below.refl w.heap.size w).trans (hbz.mono (Below.refl w.heap.size w).size)
  go_wp2_with fail
  go_ret
  exact ⟨rfl,hbwz⟩
 have t0:decide ((n:Int)>40)=false:=by simp;omega
 have t1:decide ((40:Int)<(n:Int))=false:=by simp;omega
 by_cases hm:mn≤200
 rotate_left 1
 ·have t2:decide ((mn:Int)>200)=true:=by simp;omega
  have t3:decide ((200:Int)<(mn:Int))=true:=by simp;omega
  go_enter Tryz.func4,Tryz.ntmps4
  go_wp2_with fail
  refine (vwakes_any _).mono ?_
  rintro e wz ⟨rfl,hbz⟩
  have hbwz:Below w.heap.size w wz:=(Below.refl w.heap.size w).trans (hbz.mono (Below.refl w.heap.size w).size)
  go_wp2_with fail
  go_ret
  exact ⟨rfl,hbwz⟩
 have t2:decide ((mn:Int)>200)=false:=by simp;omega
 have t3:decide ((200:Int)<(mn:Int))=false:=by simp;omega
 have HN40:=Lib.hid hn
 have HM200:=Lib.hid hm
 clear hn hm
 go_enter Tryz.func4,Tryz.ntmps4
 go_wp2_with fail
 refine (new_any' w).mono ?_
 rintro e w1 ⟨r1,rfl,hp1,hd1,hb1⟩
 have HP1:=Lib.hid hp1.out
 have hmb:=hma.below hb1
 clear hp1 t0 t1 t2 t3
 have hmf:∀r:DiskR,(∀x,foot r x→w.heap.size≤x)→m≠ []→∀ad,ma=some ad→¬foot r ad.block:=fun r hr hne ad e hf=>by
  obtain ⟨b',o',e2,hc2⟩:=hma 0 (by rw [List.length_map];exact List.length_pos_iff.2 hne)
  rw [e] at e2
  cases e2
  have q1:=World.block_lt_of_cell? w _ hc2
  have q2:=hr _ hf
  simp at q1 q2
  omega
 have HMF:=Lib.hid hmf
 clear hmf
 go_wp2_with fail
 refine (kopen0 w1 w.heap.size r1 hd1 hb1.size HP1.out ma mn mc m hmb hml (by have:=HM200.out;omega) (HMF.out r1 fun x hx=>(hd1.lt hx).1)).mono ?_
 rintro e w2 ⟨v,rfl,⟨r,V,hV,hrd,hvv,hrp,hvm,hvl,hvls,hvnm,hvd⟩,hb2⟩
 have hbw2:Below w.heap.size w w2:=hb1.trans hb2
 have hkey:∀k:Int,0≤k→PInv (armP r.p k plan).1 V []∧(armP r.p k plan).2=0:=fun k hk=>by
  have e:armP r.p k plan=(⟨[⟨nmJ,[],0⟩],false,true,k,plan⟩,0):=by
   rw [hrp]
   unfold armP one1
   rw [if_neg (by simp),if_neg (by omega)]
   rfl
  rw [e]
  refine ⟨⟨hvnm,by rw [hvl];intro x hx;(cases hx),.inl ⟨hvd,rfl,by rw [hvls,hvl];rfl,k,plan,by rw [hvl];rfl⟩⟩,rfl⟩
 have HKEY:=Lib.hid hkey
 have HRP:=Lib.hid hrp
 have hV0:V.ds.length≤0:=by rw [←VaultR.len,hvl];exact Nat.le_refl _
 have HVL:=Lib.hid hvl
 have HVM:=Lib.hid hvm
 generalize hdd:r1.d=d at*
 clear hkey hrp hvl hvls hvnm hvd hvm hd1 hmb HP1 hb1 hb2 hdd
 have hstart:∀w3 (r3:DiskR) (k:Int),0≤k→r3.p=(armP r.p k plan).1→DStep w.heap.size w2 r w3 r3→Px1 w d v m ds n n (.slice none 0 0) (.slice none 0 0) (.int .i64 0) w3:=fun w3 r3 k hk hp hst=>by
  have hst':=DStep.vault hst hV
  refine ⟨0,r3,V,none,none,0,0,0,0,[],[],by omega,rfl,hst'.at',hst.d.trans hrd,hvv,HVM.out,hV0,rfl,rfl,⟨Own.nil _ _ _ _,rfl⟩,⟨Own.nil _ _ _ _,rfl⟩,fun x hx=>(by cases hx),fun x hx=>(by cases hx),HVL.out.symm,by omega,fun x _=>⟨fun h=> ?_,fun h=> ?_⟩,fun x h=> ?_,?_,hbw2.trans (hst.below hV.disk hbw2.size)⟩
  ·obtain ⟨_,h,_⟩:=h;cases h
  ·obtain ⟨_,h,_⟩:=h;cases h
  ·obtain ⟨_,h,_⟩:=h;cases h
  ·rw [hp];exact (HKEY.out k hk).1
 have ca:∀k:Int,0≤k→k≤9223372036854775807→Calls Tryz.prog 22 #[.pointer (some ⟨d,0,none⟩),.int .i64 k,.slice pa pn pc] w2 fun e w'=>e= .returned (.int .i64 0)∧Px1 w d v m ds n n (.slice none 0 0) (.slice none 0 0) (.int .i64 0) w':=fun k h0 h1=>by
  have c:=arm_any w2 w.heap.size r k pa pn pc plan hV.disk hbw2.size h1 (hpa.below hbw2) HPL.out hpz
  rw [hrd] at c
  refine c.mono ?_
  rintro e w3 ⟨rfl,r3,hp3,hst3⟩
  exact ⟨by rw [(HKEY.out k h0).2],hstart w3 r3 k h0 hp3 hst3⟩
 clear hstart hV hrd hvv hV0 HVL HVM HKEY HRP hbw2
 go_upto_region 5 with fail
 go_cut [54] (fun v54 wx=>v54= .bool false∧Px1 w d v m ds n n (.slice none 0 0) (.slice none 0 0) (.int .i64 0) wx)
 case first=>
  go_wp2_with fail
  all_goals
   refine Calls.mono (ca _ ?_ ?_) ?_
   ·omega
   ·omega
   clear ca
   rintro e w3 ⟨rfl,hfin⟩
   have HFIN:=Lib.hid hfin
   clear hfin
   go_wp2_with fail
   go_meet
   case rel=>exact ⟨rfl,HFIN.out⟩
 case rest=>
  obtain ⟨rfl,hst⟩:=hcut
  clear ca
  go_wp2_with fail
  go_loopg [13,14,57] n (fun f sure last i wr=>Px1 w d v m ds n f sure last i wr)
  case atStart=>exact hst
  case round=>
   clear hst
   obtain ⟨k,r,V,sa,la,sn,sc,ln,lc,ss,ls,hf,rfl,hV,hrd,rfl,hvm,hlen,rfl,rfl,⟨hso,hsl⟩,⟨hlo,hll⟩,hsm,hlm,hsp,hln,hA,hB,hP,hbw⟩:=hrel
   have HF:=Lib.hid hf
   have HSP:=Lib.hid hsp
   have HSL:=Lib.hid hsl
   have HLL:=Lib.hid hll
   have HP:=Lib.hid hP
   have HRD:=Lib.hid hrd
   have HVM:=Lib.hid hvm
   have HA:=Lib.hid hA
   have HB:=Lib.hid hB
   clear hf hsp hsl hll hP hrd hvm hA hB
   by_cases hkn:k<n
   ·have t4:decide ((k:Int)<(n:Int))=true:=by simp;omega
    have hkl:k<ds.length:=by rw [HDL.out];exact hkn
    obtain ⟨b,o,hab,hbl,hc⟩:=(hda.old hbw).elem k hkl
    have hmem:ds[k]∈ds:=List.getElem_mem hkl
    have hdd:=(hda.each _ hmem)
    generalize ds[k]=y at hc hdd hmem
    obtain ⟨p,dh⟩:=y
    dsimp only at hc hdd
    rw [hab]
    go_upto_region 12 with (first|refine wpList_load_as rfl 40 deedT _ rfl rfl rfl hc rfl ?_|refine wpList_store_blk rfl 40 deedT (.tmp 16) _ rfl rfl rfl (Blk.new wr zeroDC 40) rfl rfl rfl ?_)
    obtain ⟨X,hX⟩:∃X,X=wr.heap.size:=⟨_,rfl⟩
    rw [←hX]
    refine wp_forget (fun W=>Blk W X (deedCells p dh).toArray 40∧Below wr.heap.size wr W) ⟨by rw [hX];exact (Blk.new wr zeroDC 40).setRow _,by rw [hX];exact below_setRow ((Below.refl _ wr).alloc (Nat.le_refl _) _) (Nat.le_refl _) _⟩ ?_
    rintro w3 ⟨bX,hb3⟩
    have hXw:wr.heap.size≤X:=Nat.le_of_eq hX.symm
    clear hX hc t4
    have hbw3:=below_step hbw hb3
    have hV3:=hV.old hb3
    have hso3:=hso.old hb3
    have hlo3:=hlo.old hb3
    have cg:=vgreat_any p dh w3 (hdd.old hbw3)
    rw [deedVal_cells] at cg
    have hXf:∀x,afoot r V x→x≠X:=fun x hx=>by have:=(hV.lt hx).2;omega
    have HXF:=Lib.hid hXf
    clear hbw hb3 hXf
    go_wp2_with (first|refine wpList_load_blk rfl 40 deedT (.tmp 16) rfl rfl bX rfl ?_)
    refine cg.mono ?_
    clear cg
    rintro e w4 ⟨rfl,hb4⟩
    have hbw4:=below_step hbw3 hb4
    have hV4:=hV3.old hb4
    have bX4:=bX.old hb4
    have hso4:=hso3.old hb4
    have hlo4:=hlo3.old hb4
    clear bX hbw3 hV3 hb4 hso3 hlo3 hso hlo
    cases hg:greatD p with
    |true=>
     have hn:=HN40.out
     go_wp2_with fail
     rw [←hab]
     go_roundg (gk-1)
     case measure=>have:=HF.out;omega
     case rel=>exact ⟨k+1,r,V,sa,la,sn,sc,ln,lc,ss,ls,by have:=HF.out;omega,by go_num,hV4,HRD.out,rfl,HVM.out,by omega,rfl,rfl,⟨hso4,HSL.out⟩,⟨hlo4,HLL.out⟩,hsm,hlm,HSP.out,hln,HA.out,HB.out,HP.out,hbw4⟩
    |false=>
     have cp:=vput_any w4 w.heap.size r V hV4 hbw4.size p dh (fun W ht=>hdd.old (hbw4.trans (ht.below (fun x hx=>(hV4.lt hx).1) hbw4.size))) (act_len hg)
     rw [deedVal_cells] at cp
     have hbl30:=bytes_le hg
     clear hg
     go_wp2_with (first|refine wpList_load_blk rfl 40 deedT (.tmp 16) rfl rfl bX4 rfl ?_)
     refine cp.mono ?_
     clear cp
     rintro e w5 ⟨r5,V5,rfl,hst5,hp5,hl5,hls5,hnm5,hdn5⟩
     have hvl4:V.l.length≤4000:=by have:=HN40.out;rw [VaultR.len];omega
     have hPI:=HP.out.put hdd.okD hbl30 hvl4 hst5.m hl5 hls5 hnm5 hdn5
     rw [←hp5] at hPI
     have hz5:=put_len2 hl5
     have bX5:Blk w5 X (deedCells p dh).toArray 40:=(hst5.turn.block X bX4.lt fun h=>HXF.out X h rfl).trans bX4
     have hso5:=hso4.keepAt (w':=w5) fun ad e=>hst5.turn.block _ (hso4.block_lt e).2.1 fun h=>(HA.out _ h).1 ⟨ad,e,rfl⟩
     have hlo5:=hlo4.keepAt (w':=w5) fun ad e=>hst5.turn.block _ (hlo4.block_lt e).2.1 fun h=>(HA.out _ h).2 ⟨ad,e,rfl⟩
     have hA5:∀x,afoot r5 V5 x→¬atB sa x∧¬atB la x:=fun x hx=>by
      rcases hst5.foot' x hx with h|h
      ·exact HA.out x h
      ·exact ⟨fun ⟨ad,e,q⟩=>by have:=(hso4.block_lt e).2.1;omega,fun ⟨ad,e,q⟩=>by have:=(hlo4.block_lt e).2.1;omega⟩
     have hbw5:=hbw4.trans (hst5.below hV4 hbw4.size)
     have hV5:=hst5.at'
     have hrd5:=hst5.d.trans HRD.out
     have hv5:=hst5.v
     have hm5:=hst5.m.trans HVM.out
     obtain ⟨E,hE⟩:∃E,E=putE r.p V p:=⟨_,rfl⟩
     rw [←hE] at hl5 hPI⊢
     have HA5:=Lib.hid hA5
     have HPI:=Lib.hid hPI
     have HL5:=Lib.hid hl5
     have HD5:=Lib.hid hrd5
     have HM5:=Lib.hid hm5
     have HV5:=Lib.hid hv5
     have hl15:(deedCells p dh).length=15:=rfl
     have hss40:sn≤40:=by
      have e1:=congrArg List.length HSP.out
      rw [plainD,List.length_map,HSL.out,VaultR.len] at e1
      have:=HN40.out
      omega
     have HSS:=Lib.hid hss40
     clear hE hst5 hp5 hls5 hnm5 hdn5 hbl30 hvl4 hPI hA5 hl5 hrd5 hm5 hv5 hso4 hlo4 bX4 hV4 hbw4 hdd hss40
     have hsz5:=hbw5.size
     have hn:=HN40.out
     by_cases hE0:E=0
     ·subst hE0
      go_wp2_with (first|refine wpList_load_blk rfl 40 deedT (.tmp 16) rfl rfl bX5 rfl ?_|(at_builtin;rw [deed_fold];refine wpList_append_where rfl _ _ 23 rfl deedsT rfl (hso5.alloc _) rfl (RowAt.new' w5 (deedCells p dh).toArray 40 _ rfl) (by rfl) (by omega) (by exact all_one _ rfl) (by have:=HSS.out;unfold maxLen;omega) (by have:=HSS.out;omega) (by simp;omega) ?_;intro b2 c2 w6 ho6 hg6 hb6;have hgr:=grow_apart hV5 hlo5 HA5.out HB.out hg6 hb6;have hbw6:Below w.heap.size w w6:=(hso5.alloc _).grown (hbw5.alloc hsz5 _) (by simp) hg6 (by simp;omega);clear hg6 hb6 bX5))
      have hL:=HL5.out
      rw [if_pos trivial] at hL
      have hI:=HPI.out
      rw [if_neg (fun h=>absurd h.1 (by decide))] at hI
      rw [←hab]
      go_roundg (gk-1)
      case measure=>have:=HF.out;omega
      case rel=>exact ⟨k+1,r5,V5,some ⟨b2,0,none⟩,la,sn+1,c2,ln,lc,ss++ [(p,dh)],ls,by have:=HF.out;omega,by go_num,hgr.1,HD5.out,HV5.out,HM5.out,by omega,rfl,rfl,⟨by rw [dcells_snoc];exact ho6,by rw [List.length_append,HSL.out];rfl⟩,⟨hgr.2.1,HLL.out⟩,fun x hx=>(List.mem_append.1 hx).elim (hsm x) fun h=>(List.mem_singleton.1 h)▸hmem,hlm,by rw [hL,←HSP.out];simp [plainD],hln,hgr.2.2.1,hgr.2.2.2,hI,hbw6⟩
     ·have tE0:(E==0)=false:=by simpa using hE0
      have hL:=HL5.out
      rw [if_neg hE0] at hL
      have HLn:=Lib.hid hL
      have HE0:=Lib.hid hE0
      clear hL hE0
      by_cases hE5:E=5∧ln=0
      ·obtain ⟨rfl,rfl⟩:=hE5
       have hls0:ls=[]:=List.eq_nil_of_length_eq_zero HLL.out
       subst hls0
       have hI:=HPI.out
       rw [if_pos ⟨rfl,rfl⟩] at hI
       have HI:=Lib.hid hI
       clear hI
       go_wp2_with (first|refine wpList_load_blk rfl 40 deedT (.tmp 16) rfl rfl bX5 rfl ?_|(at_builtin;rw [deed_fold];refine wpList_append_where rfl _ _ 23 rfl deedsT rfl (hlo5.alloc _) rfl (RowAt.new' w5 (deedCells p dh).toArray 40 _ rfl) (by rfl) (by omega) (by exact all_one _ rfl) (by unfold maxLen;omega) (by omega) (by simp;omega) ?_;intro b2 c2 w6 ho6 hg6 hb6;have hgr:=grow_apart hV5 hso5 (fun x hx=>⟨(HA5.out x hx).2,(HA5.out x hx).1⟩) (fun x h1 h2=>HB.out x h2 h1) hg6 hb6;have hbw6:Below w.heap.size w w6:=(hlo5.alloc _).grown (hbw5.alloc hsz5 _) (by simp) hg6 (by simp;omega);clear hg6 hb6 bX5))
       rw [←hab]
       go_roundg (gk-1)
       case measure=>have:=HF.out;omega
       case rel=>exact ⟨k+1,r5,V5,sa,some ⟨b2,0,none⟩,sn,sc,0+1,c2,ss,[(p,dh)],by have:=HF.out;omega,by go_num,hgr.1,HD5.out,HV5.out,HM5.out,by omega,rfl,rfl,⟨hgr.2.1,HSL.out⟩,⟨by simpa [dcells] using ho6,rfl⟩,hsm,fun x h=>(List.mem_singleton.1 h)▸hmem,by rw [HLn.out];exact HSP.out,by omega,fun x hx=>⟨(hgr.2.2.1 x hx).2,(hgr.2.2.1 x hx).1⟩,fun x h1 h2=>hgr.2.2.2 x h2 h1,HI.out,hbw6⟩
      ·have hI:=HPI.out
       have hne:¬(E=5∧plainD ls=[]):=fun h=>hE5 ⟨h.1,by
        have:=congrArg List.length h.2
        rw [plainD,List.length_map,HLL.out] at this
        simpa using this⟩
       rw [if_neg hne] at hI
       have HI:=Lib.hid hI
       have HE5:=Lib.hid hE5
       clear hI hne hE5
       by_cases hE5':E=5
       ·have hln0:¬ln=0:=fun h=>HE5.out ⟨hE5',h⟩
        have tE5:(E==5)=true:=by simpa using hE5'
        have tln:((ln:Int)==0)=false:=by simp;omega
        have HX1:=Lib.hid hln0
        clear hln0 hE5'
        go_wp2_with fail
        rw [←hab]
        go_roundg (gk-1)
        case measure=>have:=HF.out;omega
        case rel=>exact ⟨k+1,r5,V5,sa,la,sn,sc,ln,lc,ss,ls,by have:=HF.out;omega,by go_num,hV5,HD5.out,HV5.out,HM5.out,by omega,rfl,rfl,⟨hso5,HSL.out⟩,⟨hlo5,HLL.out⟩,hsm,hlm,by rw [HLn.out];exact HSP.out,hln,HA5.out,HB.out,HI.out,hbw5⟩
       ·have tE5:(E==5)=false:=by simpa using hE5'
        have HX1:=Lib.hid hE5'
        clear hE5'
        go_wp2_with fail
        rw [←hab]
        go_roundg (gk-1)
        case measure=>have:=HF.out;omega
        case rel=>exact ⟨k+1,r5,V5,sa,la,sn,sc,ln,lc,ss,ls,by have:=HF.out;omega,by go_num,hV5,HD5.out,HV5.out,HM5.out,by omega,rfl,rfl,⟨hso5,HSL.out⟩,⟨hlo5,HLL.out⟩,hsm,hlm,by rw [HLn.out];exact HSP.out,hln,HA5.out,HB.out,HI.out,hbw5⟩
   ·obtain rfl:k=n:=by have:=HF.out;omega
    have t4:decide ((k:Int)<(k:Int))=false:=by simp
    have hn:=HN40.out
    have hlen4:V.l.length≤4000:=by rw [VaultR.len];omega
    have hAF:=HP.out.after plan hV.vault.good hlen4
    rw [HVM.out] at hAF
    have HAF:=Lib.hid hAF
    have hsn:sn≤40:=by
     have e1:=congrArg List.length HSP.out
     rw [plainD,List.length_map,HSL.out,VaultR.len] at e1
     omega
    have HSN:=Lib.hid hsn
    have HLEN:=Lib.hid hlen
    clear hkn hAF hlen4 hlen hn
    go_wp2_with fail
    refine (vdeeds_any wr w.heap.size r.d V hV.vault).mono ?_
    rintro e w3 ⟨ad,cd,all,rfl,hall,hoa,hb3⟩
    have hbw3:=below_step hbw hb3
    have hV3:=hV.old hb3
    have hso3:=hso.old hb3
    have hlo3:=hlo.old hb3
    have hallz:all.length≤1000000000:=by
     have e1:=congrArg List.length hall
     rw [List.length_map,VaultR.len] at e1
     have:=HLEN.out
     have:=HN40.out
     omega
    have cs:=lsames_any w3 ad sa all.length sn cd sc all ss hoa.at ⟨hso3.row,fun x hx=>(hda.each x (hsm x hx)).old hbw3⟩ rfl HSL.out hallz (by have:=HSN.out;omega)
    rw [decide_eq_true (show plainD all=plainD ss from (show plainD all=V.l from hall).trans HSP.out.symm)] at cs
    generalize all.length=an at*
    clear hallz hall hoa hb3 hV hso hlo hbw
    go_wp2_with fail
    refine cs.mono ?_
    clear cs
    rintro e w4 ⟨rfl,hb4⟩
    have hbw4:=below_step hbw3 hb4
    have hV4:=hV3.old hb4
    have hso4:=hso3.old hb4
    have hlo4:=hlo3.old hb4
    clear hb4 hV3 hso3 hlo3 hbw3
    go_wp2_with fail
    have hpb:∀ad,pa=some ad→plan≠ []→ad.block<w.heap.size:=fun ad e hne=>by
     obtain ⟨b',o',e2,hc2⟩:=hpa 0 (by cases plan with|nil=>exact absurd rfl hne|cons x l=>simp [pieceV])
     rw [e] at e2
     cases e2
     exact World.block_lt_of_cell? w _ hc2
    have cc:=crash_any w4 w.heap.size r pa pn pc plan hV4.disk hbw4.size (hpa.below hbw4) HPL.out (by unfold maxLen;omega) (fun ad e hne f hf hfb=>by
     have q1:=hpb ad e hne
     have q2:=(hV4.disk.lt (.inr (.inr (.inl ⟨f,hf,.inl rfl⟩)))).1
     omega) (fun ad e hne=>Nat.lt_of_lt_of_le (hpb ad e hne) hbw4.size)
    rw [HRD.out] at cc
    refine cc.mono ?_
    clear cc hpb
    rintro e w5 ⟨r5,rfl,hp5,hst5⟩
    have hbw5:=hbw4.trans (hst5.below hV4.disk hbw4.size)
    have hso5:=hso4.keepAt (w':=w5) fun ad e=>hst5.turn.block _ (hso4.block_lt e).2.1 fun h=>(HA.out _ (.inl h)).1 ⟨ad,e,rfl⟩
    have hlo5:=hlo4.keepAt (w':=w5) fun ad e=>hst5.turn.block _ (hlo4.block_lt e).2.1 fun h=>(HA.out _ (.inl h)).2 ⟨ad,e,rfl⟩
    have hA5:∀x,foot r5 x→¬atB sa x∧¬atB la x:=fun x hx=>by
     rcases hst5.foot' x hx with h|h
     ·exact HA.out x (.inl h)
     ·exact ⟨fun ⟨ad,e,q⟩=>by have:=(hso4.block_lt e).2.1;omega,fun ⟨ad,e,q⟩=>by have:=(hlo4.block_lt e).2.1;omega⟩
    have hd5:=hst5.at'
    have hdd5:=hst5.d.trans HRD.out
    have HP5:=Lib.hid hp5
    clear hp5 hst5 hV4 hbw4 hso4 hlo4
    go_wp2_with fail
    have co:=open_any w5 w.heap.size r5 hd5
    rw [hdd5] at co
    refine co.mono ?_
    clear co
    rintro e w6 ⟨rfl,r6,hp6,hst6⟩
    have hbw6:=hbw5.trans (hst6.below hd5 hbw5.size)
    have hso6:=hso5.keepAt (w':=w6) fun ad e=>hst6.turn.block _ (hso5.block_lt e).2.1 fun h=>(hA5 _ h).1 ⟨ad,e,rfl⟩
    have hlo6:=hlo5.keepAt (w':=w6) fun ad e=>hst6.turn.block _ (hlo5.block_lt e).2.1 fun h=>(hA5 _ h).2 ⟨ad,e,rfl⟩
    have hA6:∀x,foot r6 x→¬atB sa x∧¬atB la x:=fun x hx=>by
     rcases hst6.foot' x hx with h|h
     ·exact hA5 x h
     ·exact ⟨fun ⟨ad,e,q⟩=>by have:=(hso5.block_lt e).2.1;omega,fun ⟨ad,e,q⟩=>by have:=(hlo5.block_lt e).2.1;omega⟩
    have hd6:=hst6.at'
    have hdd6:=hst6.d.trans hdd5
    have hp6':r6.p=(openP (crashAll r.p plan).1).1:=by rw [hp6,HP5.out]
    have HAQ:=Lib.hid (hp6'▸HAF.out:AfterP m V.l (plainD ls) r6.p)
    clear hp6 hp6' hst6 hd5 hdd5 hbw5 hso5 hlo5 hA5
    go_wp2_with fail
    have cv:=vopen_any w6 w.heap.size r6 nmJ hd6 hbw6.size (by decide) ma mn mc m (hma.below hbw6) hml (by have:=HM200.out;omega) (HMF.out r6 fun x hx=>(hd6.lt hx).1)
    rw [hdd6] at cv
    refine cv.mono ?_
    clear cv
    rintro e w7 ⟨r7,hp7,hst7,hres⟩
    obtain ⟨got,lf,pl,hgot,hgl,q1,q2,q3,q4,q5,q6⟩:=HAQ.out
    rcases hres with ⟨h1,_⟩|⟨_,W,rfl,hW,_,hWl,_,_,_,_⟩
    ·exact absurd q1 h1
    rw [q2] at hWl
    rw [←hp7] at q4 q5 q6
    have hbw7:=hbw6.trans (hst7.below hd6 hbw6.size)
    have hso7:=hso6.keepAt (w':=w7) fun ad e=>hst7.turn.block _ (hso6.block_lt e).2.1 fun h=>(hA6 _ h).1 ⟨ad,e,rfl⟩
    have hlo7:=hlo6.keepAt (w':=w7) fun ad e=>hst7.turn.block _ (hlo6.block_lt e).2.1 fun h=>(hA6 _ h).2 ⟨ad,e,rfl⟩
    have hA7:∀x,foot r7 x→¬atB sa x:=fun x hx=>by
     rcases hst7.foot' x hx with h|h
     ·exact (hA6 x h).1
     ·exact fun ⟨ad,e,q⟩=>by have:=(hso6.block_lt e).2.1;omega
    have hd7:=hst7.at'
    have hdd7:=hst7.d.trans hdd6
    have HGOT:=Lib.hid hgot
    have HQ4:=Lib.hid q4
    have HQ5:=Lib.hid q5
    have HQ6:=Lib.hid q6
    have HA7:=Lib.hid hA7
    generalize vopN r6.p nmJ m=vn at*
    clear hp7 hst7 hd6 hdd6 hbw6 hso6 hlo6 hA6 hgot q1 q2 q3 q4 q5 q6 HAQ hA7
    go_wp2_with fail
    refine (vdeeds_any w7 w.heap.size r7.d W hW.vault).mono ?_
    rintro e w8 ⟨aG,cG,gs,rfl,hgs,hog,hb8⟩
    have hbw8:=below_step hbw7 hb8
    have hso8:=hso7.old hb8
    have hlo8:=hlo7.old hb8
    have hd8:=hd7.old hb8
    have hgp:plainD gs=got:=(show plainD gs=W.l from hgs).trans hWl
    have HGP:=Lib.hid hgp
    have hgz:gs.length≤100:=by
     have e1:=congrArg List.length hgp
     rw [plainD,List.length_map] at e1
     have:=HLEN.out
     have:=HN40.out
     rw [VaultR.len] at hgl
     omega
    have hs7:∀x,atB sa x→x<w7.heap.size:=fun x ⟨ad,e,q⟩=>by have:=(hso7.block_lt e).2.1;omega
    have HS7:=Lib.hid hs7
    obtain ⟨gn,hgn⟩:∃gn,gn=gs.length:=⟨_,rfl⟩
    rw [←hgn] at hgz⊢
    have HGN:=Lib.hid hgn
    have hz78:=hb8.size
    have hr7:∀x,foot r7 x→x<w7.heap.size:=fun x hx=>(hd7.lt hx).2
    have HR7:=Lib.hid hr7
    clear hb8 hso7 hlo7 hd7 hbw7 hW hWl hgs hgp hgl hs7 hgn hr7
    go_upto_region 27 with fail
    go_cut [116] (fun v wx=>v= .bool false∧Below w.heap.size w wx∧DiskAt wx w.heap.size r7∧DeedsOwn wx w7.heap.size aG cG gs)
    case first=>
     have cs:=lsames_any w8 aG sa gn sn cG sc gs ss hog.at ⟨hso8.row,fun x hx=>(hda.each x (hsm x hx)).old hbw8⟩ HGN.out.symm HSL.out (by omega) (by have:=HSN.out;omega)
     rcases HGOT.out with hge|⟨hge,hl1⟩
     ·rw [decide_eq_true (show plainD gs=plainD ss from HGP.out.trans (hge.trans HSP.out.symm))] at cs
      clear hge
      go_wp2_with fail
      refine cs.mono ?_
      clear cs
      rintro e w9 ⟨rfl,hb9⟩
      have hfin:=Lib.hid (show Below w.heap.size w w9∧DiskAt w9 w.heap.size r7∧DeedsOwn w9 w7.heap.size aG cG gs from ⟨below_step hbw8 hb9,hd8.old hb9,hog.old hb9⟩)
      clear hb9 hbw8 hd8 hog
      go_wp2_with fail
      go_meet
      case rel=>exact ⟨rfl,hfin.out⟩
     ·have hne:¬plainD gs=plainD ss:=fun e=>by
       have e1:=congrArg List.length (HGP.out.symm.trans (e.trans HSP.out))
       rw [hge,List.length_append,hl1] at e1
       omega
      rw [decide_eq_false hne] at cs
      have HGE:=Lib.hid hge
      have HNE:=Lib.hid hne
      clear hge hne hl1
      go_wp2_with fail
      refine cs.mono ?_
      clear cs
      rintro e w9 ⟨rfl,hb9⟩
      have hbw9:=below_step hbw8 hb9
      have hso9:=hso8.old hb9
      have hlo9:=hlo8.old hb9
      have hd9:=hd8.old hb9
      have hog9:=hog.old hb9
      have hz79:w7.heap.size≤w9.heap.size:=Nat.le_trans hz78 hb9.size
      clear hb9 hbw8 hd8 hog hso8 hlo8
      have hsz9:=hbw9.size
      go_wp2_with (refine wpList_append_roww (by rfl) (.tmp 111) (.tmp 112) 23 rfl deedsT rfl hso9 rfl hlo9.row (by rw [dcells_len,HLL.out]) (dcells_one ls) (by have:=HSN.out;unfold maxLen;omega) (by have:=HSN.out;omega) (by omega) ?_;intro a3 c3 w10 ho10 hg10;have hfin:Below w.heap.size w w10∧DiskAt w10 w.heap.size r7∧DeedsOwn w10 w7.heap.size aG cG gs:=grow_fin hso9 hbw9 hd9 hog9 HA7.out HS7.out hg10;clear hg10 hbw9 hd9 hog9)
      have hA10:DeedsAt w10 a3 (ss++ls):=⟨by rw [show dcells (ss++ls)=dcells ss++dcells ls from List.flatMap_append];exact ho10.row,fun x hx=>(hda.each x ((List.mem_append.1 hx).elim (hsm x) (hlm x))).old hfin.1⟩
      have cs:=lsames_any w10 aG a3 gn (sn+ln) cG c3 gs (ss++ls) hfin.2.2.at hA10 HGN.out.symm (by rw [List.length_append,HSL.out,HLL.out]) (by omega) (by have:=HSN.out;omega)
      rw [decide_eq_true (show plainD gs=plainD (ss++ls) by
       rw [HGP.out,HGE.out,←HSP.out]
       simp [plainD])] at cs
      have HFIN:=Lib.hid hfin
      clear hfin hA10 ho10
      go_wp2_with fail
      refine cs.mono ?_
      clear cs
      rintro e w11 ⟨rfl,hb11⟩
      have hfin:=Lib.hid (show Below w.heap.size w w11∧DiskAt w11 w.heap.size r7∧DeedsOwn w11 w7.heap.size aG cG gs from ⟨below_step HFIN.out.1 hb11,HFIN.out.2.1.old hb11,HFIN.out.2.2.old hb11⟩)
      clear hb11
      go_wp2_with fail
      go_meet
      case rel=>exact ⟨rfl,hfin.out⟩
    case rest=>
     obtain ⟨rfl,hbw9,hd9,hog9⟩:=hcut
     go_wp2_with fail
     have hz9:=hbw9.size
     have hmf9:m≠ []→∀ad,ma=some ad→¬foot r7 ad.block:=HMF.out r7 fun x hx=>(hd9.lt hx).1
     have cv:=vopen_any wc w.heap.size r7 nmJ hd9 hbw9.size (by decide) ma mn mc m (hma.below hbw9) hml (by have:=HM200.out;omega) hmf9
     rw [hdd7] at cv
     refine cv.mono ?_
     clear cv hmf9
     rintro e w10 ⟨r10,_,hst10,hres⟩
     rcases hres with ⟨h1,_⟩|⟨_,W2,rfl,hW2,_,hWl2,_,_,_,_⟩
     ·exact absurd HQ4.out h1
     rw [HQ5.out] at hWl2
     rw [HQ6.out]
     have hbw10:=hbw9.trans (hst10.below hd9 hbw9.size)
     have hog10:=hog9.keep2 (w':=w10) fun x h1 h2=>hst10.turn.block x h2 fun h=>by have:=HR7.out x h;omega
     clear hst10 hd9 hog9 hbw9
     go_wp2_with fail
     refine (vdeeds_any w10 w.heap.size r10.d W2 hW2.vault).mono ?_
     rintro e w11 ⟨aH,cH,hs,rfl,hhs,hoh,hb11⟩
     have hbw11:=below_step hbw10 hb11
     have hog11:=hog10.old hb11
     have hhp:plainD hs=plainD gs:=(show plainD hs=W2.l from hhs).trans (hWl2.trans HGP.out.symm)
     have hhz:hs.length≤100:=by
      have e1:=congrArg List.length hhp
      rw [plainD,plainD,List.length_map,List.length_map,←HGN.out] at e1
      omega
     have cs:=lsames_any w11 aH aG hs.length gn cH cG hs gs hoh.at hog11.at rfl HGN.out.symm (by omega) (by omega)
     rw [decide_eq_true hhp] at cs
     generalize hs.length=hn' at*
     clear hb11 hog10 hbw10 hoh hog11 hhp hhs hW2 hWl2 hhz
     go_wp2_with fail
     refine cs.mono ?_
     clear cs
     rintro e w12 ⟨rfl,hb12⟩
     have hbw12:=below_step hbw11 hb12
     clear hb12 hbw11
     go_wp2_with fail
     refine (vwakes_any _).mono ?_
     rintro e wz ⟨rfl,hbz⟩
     have hbwz:Below w.heap.size w wz:=hbw12.trans (hbz.mono hbw12.size)
     go_wp2_with fail
     go_ret
     exact ⟨rfl,hbwz⟩
end
end Go.Proofs.YtioigihakjlopaaGreat

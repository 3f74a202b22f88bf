/- Texts put together and cut to what is used: LogScan, LogMem, VaultP. -/
import Derived.Test.YtioigihakjlopaaGreatVB15
import Derived.Test.YtioigihakjlopaaGreatVB24
import Derived.Test.YtioigihakjlopaaGreatVB27
import Derived.WalkMore
namespace Go.Proofs.YtioigihakjlopaaGreat
set_option linter.unusedVariables false
set_option linter.unusedSimpArgs false
section
open Go.RowKit
theorem piecesT:RowType Tryz.prog 124 22 1 24:=RowType.mk (z:= .slice none 0 0) Tryz.underlying124 (by kernel_rfl) rfl (by omega)
def most:Nat:=4096
theorem most_is:most=4096:=rfl
attribute [irreducible] most
def ScanRel (w:World) (b:List UInt8) (f:Nat) (loads rest:Value) (w':World):Prop:=
 ∃(a1 a2:Option Addr) (n1 c1 n2 c2:Nat) (vs:List Value) (done:List (List UInt8)) (r:List UInt8),loads= .slice a1 n1 c1∧OwnPieces w' w.heap.size 22 5 a1 n1 c1 vs done∧rest= .slice a2 n2 c2∧BytesAt w a2 r∧r.length=n2∧n2≤c2∧n2≤140737488351232∧
  n1+f=most∧scan most b=(done++(scan f r).1,(scan f r).2)∧Below w.heap.size w w'
set_option maxHeartbeats 1000000 in
theorem u8_ne {c d:UInt8} (h:c≠d):(U8 c !=U8 d)=true:=by
 have:U8 c≠U8 d:=fun e=>h (UInt8.toNat.inj (Int.ofNat.inj e))
 simpa using this
def ScanIn (d0 d1 d2 d3 e0 e1 e2 e3:UInt8) (w:World) (f:Nat) (i:Value) (w':World):Prop:=
 w'=w∧((i= .int .i64 0∧f=4)∨(i= .int .i64 1∧f=3∧d0=e0)∨(i= .int .i64 2∧f=2∧d0=e0∧d1=e1)∨(i= .int .i64 3∧f=1∧d0=e0∧d1=e1∧d2=e2)∨(i= .int .i64 4∧f=0∧d0=e0∧d1=e1∧d2=e2∧d3=e3))
set_option maxRecDepth 40000 in
set_option maxHeartbeats 2000000 in
theorem scan_any (a:Option Addr) (len cap:Nat) (b:List UInt8) (w:World) (hl:BytesAt w a b) (hlen:b.length=len) (hm:len≤140737488351232) (hcap:len≤cap):
  Calls Tryz.prog 105 #[.slice a len cap] w fun e w'=>∃a' n' c' vs,e= .returned (.tuple #[.slice a' n' c',.int .i64 ((scan most b).2.length:Int)])∧OwnPieces w' w.heap.size 22 5 a' n' c' vs (scan most b).1∧Below w.heap.size w w':=by
 have HL:=Lib.hid hlen
 clear hlen
 go_enter Tryz.func105,Tryz.ntmps105
 go_wp2_with fail
 go_step3
 go_wp2_with fail
 go_step3
 go_wp2_with fail
 go_loopg [2,4] most (ScanRel w b)
 case atStart=>exact ⟨none,a,0,0,len,cap,[],[],b,rfl,OwnPieces.nil _ _ _ _,rfl,hl,HL.out,hcap,hm,Nat.zero_add _,by simp,Below.refl _ _⟩
 case round=>
  obtain ⟨a1,a2,n1,c1,n2,c2,vs,done,r,rfl,hown,rfl,hr,hn2,hc2,hm2,hf,hs,hb⟩:=hrel
  have hr0:=hr
  replace hr:=hr0.below hb
  have HS:=Lib.hid hs
  have HN:=Lib.hid hn2
  clear hs hn2
  rw [most_is] at hf
  cases gk with
  |zero=>
   have t1:decide ((n1:Int)<4096)=false:=by simp;omega
   clear hf
   go_wp2_with fail
   (try rw [Exit.noGoto_ret])
   go_ret2
   have e:=scan_done HS.out (.inl rfl)
   refine ⟨a1,n1,c1,vs,?_,by rw [e];exact hown,hb⟩
   rw [e,HN.out];rfl
  |succ f=>
   have t1:decide ((n1:Int)<4096)=true:=by simp;omega
   have HF:=Lib.hid hf
   clear hf
   by_cases h8:n2≤8
   ·have t2:decide ((8:Int)<(n2:Int))=false:=by simp;omega
    go_wp2_with fail
    (try rw [Exit.noGoto_ret])
    go_ret2
    have e:=scan_done HS.out (.inr (scans_short (by rw [HN.out];exact h8)))
    refine ⟨a1,n1,c1,vs,?_,by rw [e];exact hown,hb⟩
    rw [e,HN.out];rfl
   ·have t2:decide ((8:Int)<(n2:Int))=true:=by simp;omega
    obtain ⟨c0,x1,x2,x3,d0,d1,d2,d3,m,rfl,hm0⟩:=eight (r:=r) (by rw [HN.out];omega)
    obtain ⟨g,o,rfl,hc⟩:=BytesAt.at hr (by rw [HN.out];omega)
    have g0:wr.cell? ⟨g,o,none⟩=some (.int .u8 (U8 c0)):=hc 0 (by simp)
    have g1:wr.cell? ⟨g,o+1,none⟩=some (.int .u8 (U8 x1)):=hc 1 (by simp)
    have g2:wr.cell? ⟨g,o+2,none⟩=some (.int .u8 (U8 x2)):=hc 2 (by simp)
    have g3:wr.cell? ⟨g,o+3,none⟩=some (.int .u8 (U8 x3)):=hc 3 (by simp)
    have hgw:g<wr.heap.size:=RowAt.lt hr (by simp)
    have k0:(0:Int)<n2:=by omega
    have k1:(1:Int)<n2:=by omega
    have k2:(2:Int)<n2:=by omega
    have k3:(3:Int)<n2:=by omega
    have hml:m.length+8=n2:=by have:=HN.out;simp only [List.length_cons] at this;omega
    obtain ⟨N,hNN⟩:∃N,rdBE c0 x1 x2 x3=N:=⟨_,rfl⟩
    have HO:=orBE c0 x1 x2 x3
    rw [hNN] at HO
    have hsN:scanN (c0::x1::x2::x3::d0::d1::d2::d3::m)=N:=hNN
    by_cases hbad:1≤N∧N≤65536∧N≤n2-8
    ·obtain ⟨b1,b2,b3⟩:=hbad
     have t3:decide ((N:Int)<1)=false:=by simp;omega
     have t4:decide ((65536:Int)<(N:Int))=false:=by simp;omega
     have t5:decide ((n2:Int)-8<(N:Int))=false:=by simp;omega
     go_wp2_with fail
     go_quiet (fail)
     go_wp2_with fail
     have hx:=RowAt.drop (b:=g) (o:=o) 8 hr
     have hw4:BytesAt (wr.drewN nq) (some ⟨g,o,none⟩) [c0,x1,x2,x3]:=RowAt.take 4 hr
     refine (sum_any _ 4 _ [c0,x1,x2,x3] _ hw4 rfl (by unfold maxLen;omega)).mono ?_
     rintro e w1 ⟨rfl,hb1⟩
     have hb01:Below wr.heap.size wr w1:=below_step (below_drewN (Below.refl _ wr) nq) hb1
     have hld:BytesAt w1 (some ⟨g,o+8,none⟩) (m.take N):=by
      have:BytesAt wr (some ⟨g,o+8,none⟩) (m.take N):=by unfold BytesAt;rw [List.map_take];exact RowAt.take N hx
      exact this.below hb01
     have hlN:(m.take N).length=N:=by rw [List.length_take];omega
     go_wp2_with fail
     refine (more_any _ _ _ _ (m.take N) _ hld hlN (by unfold maxLen;omega)).mono ?_
     rintro e w2 ⟨rfl,hb2⟩
     rw [recSum_of c0 x1 x2 x3 (m.take N) (by rw [hlN,hNN])]
     have hb02:=below_step hb01 hb2
     have hsc:=scans_bytes c0 x1 x2 x3 d0 d1 d2 d3 m hm0 (by rw [hNN];exact b1) (by rw [hNN];exact b2) (by rw [hNN];omega)
     rw [hNN] at hsc
     have hSC:=Lib.hid hsc
     clear hsc
     obtain ⟨sm,hsm⟩:∃s,recSum (m.take N)=s:=⟨_,rfl⟩
     rw [hsm] at hSC⊢
     clear hsm
     have f0:=byte_lo sm
     have f1:=byte_8 sm
     have f2:=byte_16 sm
     have f3:=byte_24 sm
     have hq:le4 sm=[⟨sm.setWidth 8⟩,⟨(sm>>>8).setWidth 8⟩,⟨(sm>>>16).setWidth 8⟩,⟨(sm>>>24).setWidth 8⟩]:=rfl
     generalize (⟨sm.setWidth 8⟩:UInt8)=e0 at*
     generalize (⟨(sm>>>8).setWidth 8⟩:UInt8)=e1 at*
     generalize (⟨(sm>>>16).setWidth 8⟩:UInt8)=e2 at*
     generalize (⟨(sm>>>24).setWidth 8⟩:UInt8)=e3 at*
     rw [hq] at hSC
     clear hq
     have q0:w2.cell? ⟨g,o+4,none⟩=some (.int .u8 (U8 d0)):=by rw [hb02.cell hgw];exact hc 4 (by simp)
     have q1:w2.cell? ⟨g,o+5,none⟩=some (.int .u8 (U8 d1)):=by rw [hb02.cell hgw];exact hc 5 (by simp)
     have q2:w2.cell? ⟨g,o+6,none⟩=some (.int .u8 (U8 d2)):=by rw [hb02.cell hgw];exact hc 6 (by simp)
     have q3:w2.cell? ⟨g,o+7,none⟩=some (.int .u8 (U8 d3)):=by rw [hb02.cell hgw];exact hc 7 (by simp)
     have hown2:=hown.old hb02
     have hbt:=below_step hb hb02
     have hld2:=hld.below hb2
     have hstop:[d0,d1,d2,d3]≠ [e0,e1,e2,e3]→scan most b=(done,c0::x1::x2::x3::d0::d1::d2::d3::m):=fun h=>scan_done HS.out (.inr (by rw [hSC.out];exact beq_false_of_ne h))
     have hSTOP:=Lib.hid hstop
     clear hstop
     have hgo:[d0,d1,d2,d3]=[e0,e1,e2,e3]→scan most b=((done++ [m.take N])++(scan f (m.drop N)).1,(scan f (m.drop N)).2):=fun h=>by
      have:=scan_more HS.out (by rw [hSC.out,h];exact BEq.rfl)
      unfold loadOf at this
      rw [hsN,Nat.add_comm 8 N] at this
      exact this
     have hGO:=Lib.hid hgo
     clear hgo
     go_wp2_with fail
     go_loopg [68] 4 (ScanIn d0 d1 d2 d3 e0 e1 e2 e3 w2)
     case atStart=>exact ⟨rfl,.inl ⟨rfl,rfl⟩⟩
     case round=>
      obtain ⟨rfl,⟨rfl,rfl⟩|⟨rfl,rfl,y0⟩|⟨rfl,rfl,y0,y1⟩|⟨rfl,rfl,y0,y1,y2⟩|⟨rfl,rfl,y0,y1,y2,y3⟩⟩:=hrel
      ·by_cases y0:d0=e0
       ·have ht:(U8 d0 !=U32 sm%256)=false:=by rw [f0,y0];simp
        go_wp2_with fail
        go_roundg 3
        case rel=>exact ⟨rfl,.inr (.inl ⟨rfl,rfl,y0⟩)⟩
        case measure=>omega
       ·have ht:(U8 d0 !=U32 sm%256)=true:=by rw [f0];exact u8_ne y0
        go_wp2_with fail
        (try rw [Exit.noGoto_ret])
        go_ret2
        have e:=hSTOP.out fun h=>y0 (by simp only [List.cons.injEq] at h;exact h.1)
        refine ⟨a1,n1,c1,vs,?_,by rw [e];exact hown2,hbt⟩
        rw [e,HN.out];rfl
      ·by_cases y1:d1=e1
       ·have ht:(U8 d1 !=U32 sm/256%256)=false:=by rw [f1,y1];simp
        go_wp2_with fail
        go_roundg 2
        case rel=>exact ⟨rfl,.inr (.inr (.inl ⟨rfl,rfl,y0,y1⟩))⟩
        case measure=>omega
       ·have ht:(U8 d1 !=U32 sm/256%256)=true:=by rw [f1];exact u8_ne y1
        go_wp2_with fail
        (try rw [Exit.noGoto_ret])
        go_ret2
        have e:=hSTOP.out fun h=>y1 (by simp only [List.cons.injEq] at h;exact h.2.1)
        refine ⟨a1,n1,c1,vs,?_,by rw [e];exact hown2,hbt⟩
        rw [e,HN.out];rfl
      ·by_cases y2:d2=e2
       ·have ht:(U8 d2 !=U32 sm/65536%256)=false:=by rw [f2,y2];simp
        go_wp2_with fail
        go_roundg 1
        case rel=>exact ⟨rfl,.inr (.inr (.inr (.inl ⟨rfl,rfl,y0,y1,y2⟩)))⟩
        case measure=>omega
       ·have ht:(U8 d2 !=U32 sm/65536%256)=true:=by rw [f2];exact u8_ne y2
        go_wp2_with fail
        (try rw [Exit.noGoto_ret])
        go_ret2
        have e:=hSTOP.out fun h=>y2 (by simp only [List.cons.injEq] at h;exact h.2.2.1)
        refine ⟨a1,n1,c1,vs,?_,by rw [e];exact hown2,hbt⟩
        rw [e,HN.out];rfl
      ·by_cases y3:d3=e3
       ·have ht:(U8 d3 !=U32 sm/16777216%256)=false:=by rw [f3,y3];simp
        go_wp2_with fail
        go_roundg 0
        case rel=>exact ⟨rfl,.inr (.inr (.inr (.inr (⟨rfl,rfl,y0,y1,y2,y3⟩))))⟩
        case measure=>omega
       ·have ht:(U8 d3 !=U32 sm/16777216%256)=true:=by rw [f3];exact u8_ne y3
        go_wp2_with fail
        (try rw [Exit.noGoto_ret])
        go_ret2
        have e:=hSTOP.out fun h=>y3 (by simp only [List.cons.injEq] at h;exact h.2.2.2.1)
        refine ⟨a1,n1,c1,vs,?_,by rw [e];exact hown2,hbt⟩
        rw [e,HN.out];rfl
      ·have hcnt:=HF.out
       go_wp2_with fail
       refine (clone_any _ _ _ (m.take N) _ hld2 hlN (by omega)).mono ?_
       rintro e w3 ⟨a3,c3,rfl,hx3,hb3⟩
       have hown3:=(hown2.old hb3).old ((Below.refl _ w3).alloc (Nat.le_refl _) (.cells #[.slice a3 N c3] 22))
       have hlit:=Own.lit (w:=w3) (B:=0) (e:=22) #[.slice a3 N c3] [.slice a3 N c3] 1 rfl rfl (Nat.zero_le _) (by unfold maxLen;omega)
       have hbt3:=below_step (below_step hbt hb3) ((Below.refl _ w3).alloc (Nat.le_refl _) (.cells #[.slice a3 N c3] 22))
       go_wp2_with (at_builtin;refine wpList_append_row rfl _ _ 124 rfl piecesT rfl hown3.1 rfl hlit.row rfl (by intro u hu;rw [List.mem_singleton.1 hu];rfl) (by unfold maxLen;omega) (by omega) hbt3.size ?_)
       intro a4 c4 w4 hown4 hg4
       have hnew:=hown3.snoc (by decide) hg4 hlN (hx3.alloc _) hbt.size hown4
       have hb4:=hown3.1.grown hbt3 (Nat.le_refl _) hg4 hbt3.size
       have hnx:=hGO.out (by rw [y0,y1,y2,y3])
       have hml2:(m.drop N).length=n2-(8+N):=by rw [List.length_drop];omega
       go_wp2_with fail
       case inl hcc=>
        have hm0:m.drop N=[]:=List.eq_nil_of_length_eq_zero (by omega)
        go_roundg f
        case measure=>omega
        case rel=>exact ⟨a4,_,n1+1,c4,_,0,_,_,m.drop N,rfl,hnew,rfl,by rw [hm0];exact RowAt.nil _ _,hml2,by omega,by omega,by rw [most_is];omega,hnx,hb4⟩
       case inr hcc=>
        go_roundg f
        case measure=>omega
        case rel=>
         refine ⟨a4,_,n1+1,c4,_,_,_,_,m.drop N,rfl,hnew,rfl,?_,hml2,by omega,by omega,by rw [most_is];omega,hnx,hb4⟩
         have hz:=RowAt.drop N (RowAt.drop (b:=g) (o:=o) 8 hr0)
         rw [Nat.add_assoc] at hz
         unfold BytesAt
         rw [List.map_drop]
         exact hz
    ·have hno:=scans_no (b:=c0::x1::x2::x3::d0::d1::d2::d3::m) (by rw [hsN,HN.out];exact hbad)
     have e:=scan_done HS.out (.inr hno)
     have HE:=Lib.hid e
     have HA:=Lib.hid hbad
     clear hbad hno e
     by_cases b1:1≤N
     ·have t3:decide ((N:Int)<1)=false:=by simp;omega
      by_cases b2:N≤65536
      ·have t4:decide ((65536:Int)<(N:Int))=false:=by simp;omega
       have t5:decide ((n2:Int)-8<(N:Int))=true:=by have:=HA.out;simp;omega
       go_wp2_with fail
       go_quiet (fail)
       go_wp2_with fail
       (try rw [Exit.noGoto_ret])
       go_ret2
       refine ⟨a1,n1,c1,vs,?_,by rw [HE.out];exact hown.drew _,below_drewN hb _⟩
       rw [HE.out,HN.out];rfl
      ·have t4:decide ((65536:Int)<(N:Int))=true:=by simp;omega
       go_wp2_with fail
       go_quiet (fail)
       go_wp2_with fail
       (try rw [Exit.noGoto_ret])
       go_ret2
       refine ⟨a1,n1,c1,vs,?_,by rw [HE.out];exact hown.drew _,below_drewN hb _⟩
       rw [HE.out,HN.out];rfl
     ·have t3:decide ((N:Int)<1)=true:=by simp;omega
      go_wp2_with fail
      go_quiet (fail)
      go_wp2_with fail
      (try rw [Exit.noGoto_ret])
      go_ret2
      refine ⟨a1,n1,c1,vs,?_,by rw [HE.out];exact hown.drew _,below_drewN hb _⟩
      rw [HE.out,HN.out];rfl
end
section
open Go.RowKit Go.Maps
section
variable {w w':World} {B:Nat} {T t:TypeId} {a:Option Addr} {n c:Nat} {vs:List Value} {ls:List (List UInt8)}
theorem OwnPieces.keep (h:OwnPieces w B T t a n c vs ls) (hk:∀x,a=some x→w'.heap[x.block]? =w.heap[x.block]?) (hk2:∀ad m C,Value.slice (some ad) m C∈vs→w'.heap[ad.block]? =w.heap[ad.block]?):OwnPieces w' B T t a n c vs ls:=by
 refine ⟨h.1.keepAt hk,h.2.1,fun r hr=> ?_⟩
 obtain ⟨A,C,h1,h2⟩:=h.2.2 r hr
 exact ⟨A,C,h1,h2.keepAt fun x hx=>by subst hx;exact hk2 x _ C (List.mem_of_getElem? h1)⟩
theorem OwnPieces.lower {B':Nat} (h:OwnPieces w B T t a n c vs ls) (hB:B'≤B):OwnPieces w B' T t a n c vs ls:=
 ⟨h.1.lower hB,h.2.1,fun r hr=>by obtain ⟨A,C,h1,h2⟩:=h.2.2 r hr;exact ⟨A,C,h1,h2.lower hB⟩⟩
theorem OwnPieces.inner {ad:Addr} {m C:Nat} (h:OwnPieces w B T t a n c vs ls) (hm:Value.slice (some ad) m C∈vs):B≤ad.block∧ad.block<w.heap.size∧∃cur,Blk w ad.block cur t:=by
 obtain ⟨r,hr,he⟩:=List.getElem_of_mem hm
 obtain ⟨A,C',h1,h2⟩:=h.2.2 r (by rw [←h.2.1];exact hr)
 rw [List.getElem?_eq_getElem hr,he] at h1
 simp only [Option.some.injEq,Value.slice.injEq] at h1
 exact h2.block_lt h1.1.symm
end
structure LogR where
 l:Nat
 nm:Name
 a:Option Addr
 c:Nat
 vs:List Value
 ls:List (List UInt8)
 sure:Nat
structure LogAt (w:World) (B:Nat) (d:Nat) (R:LogR):Prop where
 ge:B≤R.l
 blk:Blk w R.l #[.pointer (some ⟨d,0,none⟩),.string R.nm,.slice R.a R.ls.length R.c,.int .i64 (R.sure:Int)] 164
 rows:OwnPieces w B 22 5 R.a R.ls.length R.c R.vs R.ls
 cnt:R.ls.length≤4096
 lens:∀x∈R.ls,x.length≤65536
 nmz:R.nm.size≤maxLen
 sle:R.sure≤R.ls.length
def lfoot (R:LogR) (x:Nat):Prop:=x=R.l∨(∃ad,R.a=some ad∧x=ad.block)∨∃ad m C,Value.slice (some ad) m C∈R.vs∧x=ad.block
section
variable {w w':World} {B d:Nat} {R R' R'':LogR} {r r' r'':DiskR}
theorem LogAt.keep (h:LogAt w B d R) (hk:∀x,lfoot R x→w'.heap[x]? =w.heap[x]?):LogAt w' B d R:=
 ⟨h.ge,(hk _ (.inl rfl)).trans h.blk,h.rows.keep (fun x hx=>hk _ (.inr (.inl ⟨x,hx,rfl⟩))) (fun ad m C hm=>hk _ (.inr (.inr ⟨ad,m,C,hm,rfl⟩))),h.cnt,h.lens,h.nmz,h.sle⟩
theorem LogAt.lt (h:LogAt w B d R) {x:Nat} (hx:lfoot R x):B≤x∧x<w.heap.size:=by
 rcases hx with rfl|⟨ad,ha,rfl⟩|⟨ad,m,C,hm,rfl⟩
 ·exact ⟨h.ge,h.blk.lt⟩
 ·obtain ⟨h1,h2,_⟩:=h.rows.1.block_lt ha
  exact ⟨h1,h2⟩
 ·obtain ⟨h1,h2,_⟩:=h.rows.inner hm
  exact ⟨h1,h2⟩
theorem LogAt.old (h:LogAt w B d R) (hb:Below w.heap.size w w'):LogAt w' B d R:=h.keep fun x hx=>hb.block x (h.lt hx).2
structure DL (w:World) (B:Nat) (r:DiskR) (R:LogR):Prop where
 disk:DiskAt w B r
 log:LogAt w B r.d R
 apart:∀x,lfoot R x→¬foot r x
theorem DL.keep (h:DL w B r R) (hk:∀x,foot r x∨lfoot R x→w'.heap[x]? =w.heap[x]?):DL w' B r R:=⟨h.disk.keep fun x hx=>hk x (.inl hx),h.log.keep fun x hx=>hk x (.inr hx),h.apart⟩
theorem DL.lt (h:DL w B r R) {x:Nat} (hx:foot r x∨lfoot R x):B≤x∧x<w.heap.size:=hx.elim h.disk.lt h.log.lt
theorem DL.old (h:DL w B r R) (hb:Below w.heap.size w w'):DL w' B r R:=h.keep fun x hx=>hb.block x (h.lt hx).2
structure LStep (B:Nat) (w:World) (r:DiskR) (R:LogR) (w':World) (r':DiskR) (R':LogR):Prop where
 turn:Turn (fun x=>foot r x∨lfoot R x) w w'
 at':DL w' B r' R'
 foot':∀x,foot r' x∨lfoot R' x→(foot r x∨lfoot R x)∨w.heap.size≤x
 d:r'.d=r.d
 l:R'.l=R.l
 nm:R'.nm=R.nm
theorem LStep.trans {w'':World} (h:LStep B w r R w' r' R') (h':LStep B w' r' R' w'' r'' R''):LStep B w r R w'' r'' R'':=
 ⟨h.turn.trans h'.turn h.foot',h'.at',fun x hx=>by
  rcases h'.foot' x hx with h1|h1
  ·exact h.foot' x h1
  ·exact .inr (Nat.le_trans h.turn.size h1),h'.d.trans h.d,h'.l.trans h.l,h'.nm.trans h.nm⟩
theorem LStep.old (h:DL w B r R) (hb:Below w.heap.size w w'):LStep B w r R w' r R:=⟨Turn.of_below hb,h.old hb,fun _ hx=> .inl hx,rfl,rfl,rfl⟩
theorem DStep.log (hs:DStep B w r w' r') (h:DL w B r R):LStep B w r R w' r' R:=by
 refine ⟨hs.turn.mono fun _ hx=> .inl hx,⟨hs.at',?_,fun x hx hf=> ?_⟩,fun x hx=> ?_,hs.d,rfl,rfl⟩
 ·rw [hs.d]
  exact h.log.keep fun x hx=>hs.turn.block x (h.log.lt hx).2 (h.apart x hx)
 ·rcases hs.foot' x hf with h1|h1
  ·exact h.apart x hx h1
  ·have:=(h.log.lt hx).2;omega
 ·rcases hx with hx|hx
  ·rcases hs.foot' x hx with h1|h1
   ·exact .inl (.inl h1)
   ·exact .inr h1
  ·exact .inl (.inr hx)
end
def openB (p:DiskP) (nm:Name):List (List UInt8)×List UInt8:=scan most (readP p nm).1
def openMk (p:DiskP) (nm:Name):DiskP×Int:=if (readP p nm).2=4 then makeP p nm else (p,(readP p nm).2)
def openCut (p:DiskP) (nm:Name):DiskP×Int:=if (openB p nm).2.length=0 then ((openMk p nm).1,0) else cutP (openMk p nm).1 nm ((((readP p nm).1.length-(openB p nm).2.length:Nat)):Int)
def openSync (p:DiskP) (nm:Name):DiskP×Int:=syncP (openCut p nm).1 nm
def openE (p:DiskP) (nm:Name):Int:=if (openMk p nm).2≠0 then (openMk p nm).2 else if (openCut p nm).2≠0 then (openCut p nm).2 else (openSync p nm).2
def openD (p:DiskP) (nm:Name):DiskP:=if (openMk p nm).2≠0 then (openMk p nm).1 else if (openCut p nm).2≠0 then (openCut p nm).1 else (openSync p nm).1
def openN (p:DiskP) (nm:Name):Nat:=if openE p nm=0 then (openB p nm).2.length else 0
end
section
open Go.RowKit
def gamesN (l:List DeedP):Nat:=(l.filter fun x=>decide (x.kind=1)).length
def ofG (l:List DeedP) (g:Int):List DeedP:=l.filter fun x=>decide (x.game=g)
def placesFrom:Nat→List DeedP→Int→List Nat
 |_,[],_=> []
 |i,x::l,g=>if x.game=g then i::placesFrom (i+1) l g else placesFrom (i+1) l g
def placesOf (l:List DeedP) (g:Int):List Nat:=placesFrom 0 l g
def followsD (l:List DeedP) (x:DeedP):Bool:=if x.kind=1 then decide (x.game=(gamesN l:Int)) else decide (0≤x.game)&&decide (x.game<(gamesN l:Int))
theorem gamesN_snoc (l:List DeedP) (x:DeedP):gamesN (l++ [x])=gamesN l+(if x.kind=1 then 1 else 0):=by
 unfold gamesN
 rw [List.filter_append,List.length_append]
 by_cases h:x.kind=1<;>simp [h]
theorem placesFrom_snoc:∀(l:List DeedP) (i:Nat) (x:DeedP) (g:Int),placesFrom i (l++ [x]) g=placesFrom i l g++(if x.game=g then [i+l.length] else [])
 | [],i,x,g=>by by_cases h:x.game=g<;>simp [placesFrom,h]
 |y::l,i,x,g=>by
  rw [List.cons_append,placesFrom,placesFrom,placesFrom_snoc l (i+1) x g,List.length_cons,show i+1+l.length=i+(l.length+1) by omega]
  split<;>simp
theorem placesOf_snoc (l:List DeedP) (x:DeedP) (g:Int):placesOf (l++ [x]) g=placesOf l g++(if x.game=g then [l.length] else []):=by
 unfold placesOf
 rw [placesFrom_snoc,Nat.zero_add]
theorem places_len:∀(l:List DeedP) (i:Nat) (g:Int),(placesFrom i l g).length=(ofG l g).length
 | [],_,_=>rfl
 |y::l,i,g=>by
  have ih:=places_len l (i+1) g
  unfold ofG at ih⊢
  by_cases h:y.game=g
  ·simp [placesFrom,h,ih]
  ·simp [placesFrom,h,ih]
theorem placesOf_len (l:List DeedP) (g:Int):(placesOf l g).length=(ofG l g).length:=places_len l 0 g
theorem gamesN_le (l:List DeedP):gamesN l≤l.length:=List.length_filter_le _ _
theorem ofG_le (l:List DeedP) (g:Int):(ofG l g).length≤l.length:=List.length_filter_le _ _
inductive GoodD:List DeedP→Prop
 |nil:GoodD []
 |snoc {l:List DeedP} {x:DeedP} (h:GoodD l) (hm:mayD x=true) (hf:followsD l x=true) (hk:OkD x):GoodD (l++ [x])
theorem follows_game {l:List DeedP} {x:DeedP} (h:followsD l x=true):0≤x.game∧x.game<(gamesN (l++ [x]):Int)∧(x.kind≠1→x.game<(gamesN l:Int))∧(x.kind=1→x.game=(gamesN l:Int)):=by
 unfold followsD at h
 rw [gamesN_snoc]
 by_cases hk:x.kind=1
 ·rw [if_pos hk] at h
  have:=of_decide_eq_true h
  refine ⟨by omega,by simp [hk];omega,fun hn=>absurd hk hn,fun _=>this⟩
 ·rw [if_neg hk] at h
  simp only [Bool.and_eq_true,decide_eq_true_iff] at h
  refine ⟨h.1,by simp [hk];omega,fun _=>h.2,fun e=>absurd e hk⟩
theorem GoodD.range {l:List DeedP} (h:GoodD l):∀x∈l,0≤x.game∧x.game<(gamesN l:Int):=by
 induction h with
 |nil=>intro x hx;cases hx
 | @snoc l y h hm hf hk ih=>
  intro x hx
  have h1:=follows_game hf
  rcases List.mem_append.1 hx with hx|hx
  ·have:=ih x hx
   rw [gamesN_snoc]
   refine ⟨this.1,?_⟩
   split<;>omega
  ·rw [List.mem_singleton.1 hx]
   exact ⟨h1.1,h1.2.1⟩
theorem GoodD.none {l:List DeedP} (h:GoodD l) {g:Int} (hg:(gamesN l:Int)≤g):ofG l g=[]:=by
 unfold ofG
 rw [List.filter_eq_nil_iff]
 intro x hx e
 have:=h.range x hx
 have:=of_decide_eq_true e
 omega
def loadV (m:List UInt8) (l:List DeedP) (x:DeedP):List UInt8:=be8 x.game++sealL m x.game.toNat (ofG l x.game).length (bytesD x)
def unloadV (m:List UInt8) (l:List DeedP) (load:List UInt8):DeedP×Bool:=
 let c:=numC ⟨load,false⟩
 if c.2.bad=true∨c.1<0∨(gamesN l:Int)<c.1 then (zeroD,false)
 else if (openL m c.1.toNat (ofG l c.1).length c.2.b).2≠0 then (zeroD,false)
 else ((readD (openL m c.1.toNat (ofG l c.1).length c.2.b).1).1,decide ((readD (openL m c.1.toNat (ofG l c.1).length c.2.b).1).2=0∧(readD (openL m c.1.toNat (ofG l c.1).length c.2.b).1).1.game=c.1)&&followsD l (readD (openL m c.1.toNat (ofG l c.1).length c.2.b).1).1)
def scanV (m:List UInt8):List DeedP→List (List UInt8)→List DeedP
 |l,[]=>l
 |l,x::r=>if (unloadV m l x).2 then scanV m (l++ [(unloadV m l x).1]) r else l
end
end Go.Proofs.YtioigihakjlopaaGreat

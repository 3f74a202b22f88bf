/- Texts put together and cut to what is used: DiskRead, DiskWake, Pieces. -/
import Derived.Test.YtioigihakjlopaaGreatVB25
import Derived.Test.YtioigihakjlopaaGreatVB26
namespace Go.Proofs.YtioigihakjlopaaGreat
set_option linter.unusedVariables false
set_option linter.unusedSimpArgs false
section
open Go.RowKit Go.Maps Go.Shelf
theorem read_enter (args:Array Value) (w:World):(callFunc 59 args).run Tryz.prog w= .ok (.enter 59 args) w:=enters_of Tryz.func59 (by kernel_rfl) rfl args w
theorem cut_enter (args:Array Value) (w:World):(callFunc 104 args).run Tryz.prog w= .ok (.enter 104 args) w:=enters_of Tryz.func104 (by kernel_rfl) rfl args w
def ReadRes (w:World) (r:DiskR) (nm:Name) (bx:Nat) (v:Int) (w':World):Prop:=
 v=(readP r.p nm).2∧∃a n c,Blk w' bx #[.slice a n c] 22∧(readP r.p nm).1.length=n∧Own w' w.heap.size 5 1 a n c ((readP r.p nm).1.map bv)∧Below w.heap.size w w'
set_option maxHeartbeats 1000000 in
theorem read1_any (w:World) (B:Nat) (r:DiskR) (f:FileR) (h:DiskAt w B r) (hdn:r.down=false) (hf:f∈r.fs) (w0:World) (bx:Nat) (cs:Array Value) (hbx:Blk w bx #[.slice none 0 0] 22) (hb0:Below w0.heap.size w0 w) (hbx0:w0.heap.size≤bx):
  Calls Tryz.prog 59 #[.pointer (some ⟨f.blk,0,none⟩),.pointer (some ⟨bx,0,none⟩)] w fun e w'=>∃v,e= .returned (.int .i64 v)∧ReadRes w0 r f.nm bx v w':=by
 have HR:=Lib.hid (show readP r.p f.nm=(f.b,0) by
  unfold readP
  rw [findP_of h hf]
  simp [DiskR.p,hdn,FileR.p])
 have hfa:=h.files f hf
 have hsz:f.b.length≤1048576:=h.ok.size f.p (List.mem_map.2 ⟨f,hf,rfl⟩)
 have c0:=hfa.blk.rule
 go_enter Tryz.func59,Tryz.ntmps59
 go_wp2_with fail
 refine (clone_any f.a f.b.length f.c f.b w hfa.row.read rfl (by omega)).mono ?_
 rintro e w1 ⟨a',c',rfl,hown,hb1⟩
 have hbx1:=hbx.old hb1
 have c1:=hbx1.rule
 have c2:=hbx1.free
 clear c0
 go_wp2_with fail
 go_ret
 refine ⟨0,rfl,?_⟩
 unfold ReadRes
 rw [HR.out]
 refine ⟨rfl,a',f.b.length,c',hbx1.set 0 _,rfl,?_,?_⟩
 ·exact (hown.lower hb0.size).setCell_apart hbx1 (by decide) 0 _
 ·exact (below_step hb0 hb1).setCell hbx0 _
set_option maxHeartbeats 1000000 in
theorem read_any (w:World) (B:Nat) (r:DiskR) (nm:Name) (h:DiskAt w B r) (hs:nm.size≤maxLen):
  Calls Tryz.prog 14 #[.pointer (some ⟨r.d,0,none⟩),.string nm] w fun e w'=>∃a n c,e= .returned (.tuple #[.slice a n c,.int .i64 (readP r.p nm).2])∧(readP r.p nm).1.length=n∧Own w' w.heap.size 5 1 a n c ((readP r.p nm).1.map bv)∧Below w.heap.size w w':=by
 have hmf:∀(fn:Fn) (first cap:Array Value) (w:World),(Instr.makeFunc fn first cap).run Tryz.prog w= .ok (.func fn first cap) w:=fun _ _ _ _=>rfl
 have hb2:Below w.heap.size w (w.alloc (.cells #[.slice none 0 0] 22)):=(Below.refl _ _).alloc (Nat.le_refl _) _
 have h2:=h.old hb2
 have hB2:=Blk.new w #[.slice none 0 0] 22
 go_enter Tryz.func14,Tryz.ntmps14
 go_wp2_with fail
 refine (may_any h2 hs 59 _ read_enter (ReadRes w r nm w.heap.size) ?_ ?_ ?_).mono ?_
 ·intro hdn
  have e:readP r.p nm=([],5):=by simp [readP,DiskR.p,hdn]
  unfold ReadRes
  rw [e]
  exact ⟨rfl,none,0,0,hB2,rfl,Own.nil _ _ _ _,hb2⟩
 ·intro hdn hno
  have e:readP r.p nm=([],4):=by unfold readP;rw [findP_no hno];simp [DiskR.p,hdn]
  unfold ReadRes
  rw [e]
  exact ⟨rfl,none,0,0,hB2,rfl,Own.nil _ _ _ _,hb2⟩
 ·intro f hf hn hdn
  subst hn
  exact read1_any _ B r f h2 hdn hf w _ #[] hB2 hb2 (Nat.le_refl _)
 ·rintro e w1 ⟨v,rfl,hv,a,n,c,hbx,hn,hown,hb⟩
  have c0:=hbx.rule
  have c1:=hbx.free
  go_wp2_with fail
  have hc:=(hbx.set 0 (.slice a n c)).rule 0
  refine bodyPost_ret (v:= .tuple #[.slice a n c,.int .i64 (readP r.p nm).2]) ?_ rfl ?_
  ·simp [results,Tryz.f14,go_sem,hc]
  ·exact ⟨a,n,c,rfl,hn,hown.setCell_apart hbx (by decide) 0 _,hb.setCell (Nat.le_refl _) _⟩
theorem trunc_step {w w':World} {B:Nat} {r:DiskR} {f:FileR} (h:DiskAt w B r) (hf:f∈r.fs) {k s:Nat} (hk:k≤f.b.length) (hs:s≤k) (hblk:Blk w' f.blk #[.slice f.a k f.c,.int .i64 (s:Int)] 112) (hT:Turn (fun x=>x=f.blk) w w'):
  DStep B w r w' {r with fs:=updR r.fs f.nm fun g=>{g with b:=g.b.take k,sure:=s}}:=by
 have hfa:=h.files f hf
 have hsame:∀g∈r.fs,g.nm=f.nm→g=f:=fun g hg e=>h.same hg hf e
 have hk':∀x,x≠f.blk→x<w.heap.size→w'.heap[x]? =w.heap[x]? :=fun x h1 h2=>hT.block x h2 h1
 refine ⟨hT.mono (fun x hx=>by subst hx;exact .inr (.inr (.inl ⟨f,hf,.inl rfl⟩))),?_,?_,rfl⟩
 ·refine h.upd f.nm (fun g=>{g with b:=g.b.take k,sure:=s}) (fun _ _=>⟨rfl,rfl⟩) (hk' _ (Ne.symm (h.ne_file hf)) h.blk.lt) (hk' _ (Ne.symm (h.ne_map hfa.blk)) h.map.lt) (fun x hx=>hk' _ (h.ne_plan hx hfa.blk (by decide)) (h.plan.block_lt hx).2.1) ?_ ?_ ?_ ?_
  ·intro g hg hgn
   exact ⟨hk' _ (Ne.symm (h.apart' hf hg (Ne.symm hgn)).1) (h.files g hg).blk.lt,fun x hx=>hk' _ (h.ne_row hg hx hfa.blk (by decide)) ((h.files g hg).row.lt hx).2.1⟩
  ·intro g hg hgn
   obtain rfl:=hsame g hg hgn
   have hl:(g.b.take k).length=k:=by rw [List.length_take];omega
   refine ⟨?_,hfa.ge,?_⟩
   ·show Blk w' g.blk #[.slice g.a (g.b.take k).length g.c,.int .i64 (s:Int)] _
    rw [hl];exact hblk
   ·show Mid w' B 5 g.a (g.b.take k).length g.c ((g.b.take k).map bv)
    rw [hl,List.map_take]
    exact (hfa.row.take (k:=k) hk).keep fun x hx=>hk' _ (h.ne_row hf hx hfa.blk (by decide)) (hfa.row.lt hx).2.1
  ·intro g hg hgn g2 hg2 hgn2 x hx
   obtain rfl:=hsame g hg hgn
   exact (h.apart' hf hg2 (Ne.symm hgn2)).2 x hx
  ·have hp5:DiskR.p {r with fs:=updR r.fs f.nm fun g=>{g with b:=g.b.take k,sure:=s}}=updP r.p f.nm (fun g=>{g with b:=g.b.take k,sure:=s}):=by
    simp only [DiskR.p,updP]
    rw [updR_p _ _ _ (fun g=>{g with b:=g.b.take k,sure:=s}) (fun _ _ _=>rfl)]
   show DiskOk (DiskR.p {r with fs:=updR r.fs f.nm fun g=>{g with b:=g.b.take k,sure:=s}})
   rw [hp5]
   refine h.ok.upd f.nm _ (fun _ _=>rfl) (fun g hg hgn=> ?_) (fun g hg hgn=> ?_)
   ·obtain ⟨g0,hg0,rfl⟩:=List.mem_map.1 hg
    obtain rfl:=hsame g0 hg0 hgn
    show s≤(g0.b.take k).length
    rw [List.length_take];omega
   ·have:=h.ok.size g hg
    show (g.b.take k).length≤maxFileN
    rw [List.length_take];omega
 ·rintro x (hx|hx|⟨g,hg1,hx⟩|hx)
  ·exact .inl (.inl hx)
  ·exact .inl (.inr (.inl hx))
  ·obtain ⟨g0,hg0,⟨e,rfl⟩|⟨e,rfl⟩⟩:=updR_mem hg1
   ·exact .inl (.inr (.inr (.inl ⟨g0,hg0,hx⟩)))
   ·exact .inl (.inr (.inr (.inl ⟨_,hg0,hx⟩)))
  ·exact .inl (.inr (.inr (.inr hx)))
theorem tree_arm_store {P:Program} {l:List Oper} {Q:Exit→Act→World→Prop} {R:World→World→Prop} {i:Nat} {o:Oper} {p:Plan} {rest:List (Nat×Plan)} {a:Act} {w:World} (ho:nthOp l i=some o) (hl:isStoreO o=true) (hw:Region.wanted o (yielded l.toArray a.tmps)=true)
  (h:∀K:Act→World→Prop,(∀a' w',wpLexT true P l.toArray Q R p a' w'→K a' w')→o.wp P a w K Q) (h2:wpLexF true P l.toArray Q R rest a w):wpLexF true P l.toArray Q R ((i,p)::rest) a w:=by
 rw [nthOp_eq] at ho
 simp only [wpLexF,ho,hw,if_true]
 exact ⟨h _ (fun a' w' h2=>⟨.inl (by simp [wildAt,wildO,ho,hl]),h2⟩),h2⟩
def CutRes (B:Nat) (w:World) (r:DiskR) (nm:Name) (n:Int) (v:Int) (w':World):Prop:=v=(cutP r.p nm n).2∧∃r',r'.p=(cutP r.p nm n).1∧DStep B w r w' r'
set_option maxRecDepth 20000 in
set_option maxHeartbeats 2000000 in
theorem cut1_any (w:World) (B:Nat) (r:DiskR) (f:FileR) (h:DiskAt w B r) (hdn:r.down=false) (hf:f∈r.fs) (bn:Nat) (n:Int) (hbn:Blk w bn #[.int .i64 n] 3):
  Calls Tryz.prog 104 #[.pointer (some ⟨f.blk,0,none⟩),.pointer (some ⟨bn,0,none⟩)] w fun e w'=>∃v,e= .returned (.int .i64 v)∧CutRes B w r f.nm n v w':=by
 have HDN:=Lib.hid hdn
 clear hdn
 have hfp:=Lib.hid (findP_of h hf)
 have hfa:=h.files f hf
 have hsz:f.b.length≤1048576:=h.ok.size f.p (List.mem_map.2 ⟨f,hf,rfl⟩)
 have L1:∀W,Old w.drew W→W.cell? ⟨bn,0,none⟩=some (.int .i64 n):=fun W hW=>by rw [(hW:Below w.heap.size w.drew W).cell hbn.lt];exact hbn.rule 0
 have L2:∀W,Old w.drew W→W.cell? ⟨f.blk,0,none⟩=some (.slice f.a f.b.length f.c):=fun W hW=>by rw [(hW:Below w.heap.size w.drew W).cell hfa.blk.lt];exact hfa.blk.rule 0
 have HE:=Lib.hid (show cutP r.p f.nm n=if n<0∨(f.b.length:Int)<n then (r.p,2) else (updP r.p f.nm fun f=>{f with b:=f.b.take n.toNat,sure:=n.toNat},0) by
  unfold cutP mayP
  rw [hfp.out]
  simp [DiskR.p,HDN.out,FileR.p])
 by_cases h0:n<0
 ·have t0:decide (n<0)=true:=by simp [h0]
  go_enter Tryz.func104,Tryz.ntmps104
  go_wp2_with fail
  refine wp_region_old (0::1::2::3::4::5::6::7::8::9::10::[]) (by kernel_rfl) (by kernel_rfl) (fun c a d v w h=>by cases d<;>exact h) ?_
  repeat (first|(refine lex_skip rfl (by rfl) ?_;simp only [Act.put,List.setIfInBounds_toArray,List.set])|(refine lex_quiet (v:= ?_) rfl rfl (by rfl) ?_ ?_;rotate_left;(intro W hW;go_simp);(try with_reducible rfl);simp only [Act.put,List.setIfInBounds_toArray,List.set]))
  refine lex_nil ?_
  go_wp2_with fail
  go_ret
  refine ⟨2,rfl,?_⟩
  unfold CutRes
  rw [HE.out,if_pos (.inl h0)]
  exact ⟨rfl,r,rfl,DStep.quiet h (Below.refl _ _).drew⟩
 ·have t0:decide (n<0)=false:=by simp;omega
  by_cases h1:(f.b.length:Int)<n
  ·have t1:decide ((f.b.length:Int)<n)=true:=by simp [h1]
   go_enter Tryz.func104,Tryz.ntmps104
   go_wp2_with fail
   refine wp_region_old (0::1::2::3::4::5::6::7::8::9::10::[]) (by kernel_rfl) (by kernel_rfl) (fun c a d v w h=>by cases d<;>exact h) ?_
   repeat (first|(refine lex_skip rfl (by rfl) ?_;simp only [Act.put,List.setIfInBounds_toArray,List.set])|(refine lex_quiet (v:= ?_) rfl rfl (by rfl) ?_ ?_;rotate_left;(intro W hW;go_simp);(try with_reducible rfl);simp only [Act.put,List.setIfInBounds_toArray,List.set]))
   refine lex_nil ?_
   go_wp2_with fail
   go_ret
   refine ⟨2,rfl,?_⟩
   unfold CutRes
   rw [HE.out,if_pos (.inr h1)]
   exact ⟨rfl,r,rfl,DStep.quiet h (Below.refl _ _).drew⟩
  ·have t1:decide ((f.b.length:Int)<n)=false:=by simp;omega
   obtain ⟨k,rfl⟩:∃k:Nat,n=k:=⟨n.toNat,by omega⟩
   have hkb:k≤f.b.length:=by omega
   have hkc:(k:Int)≤(f.c:Int):=by have:=hfa.row.le;omega
   go_enter Tryz.func104,Tryz.ntmps104
   go_wp2_with fail
   refine wp_region_old (0::1::2::3::4::5::6::7::8::9::10::[]) (by kernel_rfl) (by kernel_rfl) (fun c a d v w h=>by cases d<;>exact h) ?_
   repeat (first|(refine lex_skip rfl (by rfl) ?_;simp only [Act.put,List.setIfInBounds_toArray,List.set])|(refine lex_quiet (v:= ?_) rfl rfl (by rfl) ?_ ?_;rotate_left;(intro W hW;go_simp);(try with_reducible rfl);simp only [Act.put,List.setIfInBounds_toArray,List.set]))
   refine lex_nil ?_
   go_wp2_with fail
   clear L1 L2 t0 t1
   have hne:bn≠f.blk:=Blk.ne hbn hfa.blk (by decide)
   have L1:∀W,Old w.drew.drew W→W.cell? ⟨bn,0,none⟩=some (.int .i64 (k:Int)):=fun W hW=>by rw [(hW:Below w.heap.size w.drew.drew W).cell hbn.lt];exact hbn.rule 0
   have L2:∀W,Old w.drew.drew W→W.cell? ⟨f.blk,0,none⟩=some (.slice f.a f.b.length f.c):=fun W hW=>by rw [(hW:Below w.heap.size w.drew.drew W).cell hfa.blk.lt];exact hfa.blk.rule 0
   have c0:=hfa.blk.rule
   have c1:=hfa.blk.free
   have hB1:=hfa.blk.set 0 (.slice f.a k f.c)
   have hN1:=hbn.other ⟨f.blk,0,none⟩ (.slice f.a k f.c) hne
   have c2:=hB1.rule
   have c3:=hB1.free
   have c4:=hN1.rule
   have c5:=hbn.rule
   refine wp_region_treeR true Old Old.refl Old.trans (.step 0 (.step 2 (.step 3 (.step 4 (.step 5 (.step 6 (.step 7 (.step 9 (.step 10 (.fork [(1,(.fork [(8,(.step 11 (.step 12 (.step 13 (.step 14 .done))))),(11,(.step 8 (.step 12 (.step 13 (.step 14 .done)))))])),(8,(.fork [(1,(.step 11 (.step 12 (.step 13 (.step 14 .done))))),(11,(.step 1 (.step 12 (.step 13 (.step 14 .done)))))])),(11,(.step 1 (.step 8 (.step 12 (.step 13 (.step 14 .done))))))])))))))))) (by kernel_rfl) (by kernel_rfl) (fun c a d v w h=>by cases d<;>exact h) ?_
   repeat (first|(refine tree_skip rfl (by rfl) ?_;simp only [Act.put,List.setIfInBounds_toArray,List.set])|(refine tree_quiet (v:= ?_) rfl rfl (by rfl) ?_ ?_;rotate_left;(intro W hW;go_simp);(try with_reducible rfl);simp only [Act.put,List.setIfInBounds_toArray,List.set]))
   have L3:∀W,Old (w.setCell ⟨f.blk,0,none⟩ (.slice f.a k f.c)).drew.drew W→W.cell? ⟨bn,0,none⟩=some (.int .i64 (k:Int)):=fun W hW=>by rw [(hW:Below _ _ W).cell hN1.lt];exact hN1.rule 0
   have hB2:Blk ((w.setCell ⟨f.blk,0,none⟩ (.slice f.a k f.c)).setCell ⟨f.blk,1,none⟩ (.int .i64 (k:Int))).drew.drew f.blk #[.slice f.a k f.c,.int .i64 (k:Int)] 112:=(hfa.blk.set 0 _).set 1 _
   have hfin:CutRes B w r f.nm (k:Int) 0 ((w.setCell ⟨f.blk,0,none⟩ (.slice f.a k f.c)).setCell ⟨f.blk,1,none⟩ (.int .i64 (k:Int))).drew.drew:=by
    unfold CutRes
    rw [HE.out,if_neg (by omega)]
    refine ⟨rfl,_,?_,trunc_step h hf hkb (Nat.le_refl _) hB2 ?_⟩
    ·simp only [DiskR.p,updP]
     rw [updR_p _ _ _ (fun g=>{g with b:=g.b.take k,sure:=k}) (fun _ _ _=>rfl)]
     rfl
    ·exact (((Turn.refl (fun x=>x=f.blk) w).setCell (x:=⟨f.blk,0,none⟩) (.inl rfl) _).setCell (x:=⟨f.blk,1,none⟩) (.inl rfl) _).drew.drew
   refine tree_fork ?_
   refine tree_arm rfl (by rfl) (fun K hK=> ?_) ?_
   ·go_wp2_with fail
    refine hK _ _ (Old.refl _) ?_
    clear hK K
    refine tree_fork ?_
    refine tree_arm rfl (by rfl) (fun K hK=> ?_) ?_
    ·go_wp2_with fail
     refine hK _ _ (Old.refl _) ?_
     clear hK K
     refine tree_store rfl rfl (by rfl) (fun K hK=> ?_)
     go_wp2_with fail
     repeat (first|(refine tree_skip rfl (by rfl) ?_;simp only [Act.put,List.setIfInBounds_toArray,List.set])|(refine tree_quiet (v:= ?_) rfl rfl (by rfl) ?_ ?_;rotate_left;(intro W hW;go_simp);(try with_reducible rfl);simp only [Act.put,List.setIfInBounds_toArray,List.set]))
     refine tree_store rfl rfl (by rfl) (fun K hK=> ?_)
     go_wp2_with fail
     refine tree_done ?_
     go_wp2_with fail
     go_ret
     exact ⟨0,rfl,hfin⟩
    ·refine tree_arm_store rfl rfl (by rfl) (fun K hK=> ?_) ?_
     ·go_wp2_with fail
      repeat (first|(refine tree_skip rfl (by rfl) ?_;simp only [Act.put,List.setIfInBounds_toArray,List.set])|(refine tree_quiet (v:= ?_) rfl rfl (by rfl) ?_ ?_;rotate_left;(intro W hW;go_simp);(try with_reducible rfl);simp only [Act.put,List.setIfInBounds_toArray,List.set]))
      refine tree_store rfl rfl (by rfl) (fun K hK=> ?_)
      go_wp2_with fail
      refine tree_done ?_
      go_wp2_with fail
      go_ret
      exact ⟨0,rfl,hfin⟩
     ·exact tree_nil
   ·refine tree_arm rfl (by rfl) (fun K hK=> ?_) ?_
    ·go_wp2_with fail
     refine hK _ _ (Old.refl _) ?_
     clear hK K
     refine tree_fork ?_
     refine tree_arm rfl (by rfl) (fun K hK=> ?_) ?_
     ·go_wp2_with fail
      refine hK _ _ (Old.refl _) ?_
      clear hK K
      refine tree_store rfl rfl (by rfl) (fun K hK=> ?_)
      go_wp2_with fail
      repeat (first|(refine tree_skip rfl (by rfl) ?_;simp only [Act.put,List.setIfInBounds_toArray,List.set])|(refine tree_quiet (v:= ?_) rfl rfl (by rfl) ?_ ?_;rotate_left;(intro W hW;go_simp);(try with_reducible rfl);simp only [Act.put,List.setIfInBounds_toArray,List.set]))
      refine tree_store rfl rfl (by rfl) (fun K hK=> ?_)
      go_wp2_with fail
      refine tree_done ?_
      go_wp2_with fail
      go_ret
      exact ⟨0,rfl,hfin⟩
     ·refine tree_arm_store rfl rfl (by rfl) (fun K hK=> ?_) ?_
      ·go_wp2_with fail
       repeat (first|(refine tree_skip rfl (by rfl) ?_;simp only [Act.put,List.setIfInBounds_toArray,List.set])|(refine tree_quiet (v:= ?_) rfl rfl (by rfl) ?_ ?_;rotate_left;(intro W hW;go_simp);(try with_reducible rfl);simp only [Act.put,List.setIfInBounds_toArray,List.set]))
       refine tree_store rfl rfl (by rfl) (fun K hK=> ?_)
       go_wp2_with fail
       refine tree_done ?_
       go_wp2_with fail
       go_ret
       exact ⟨0,rfl,hfin⟩
      ·exact tree_nil
    ·refine tree_arm_store rfl rfl (by rfl) (fun K hK=> ?_) ?_
     ·go_wp2_with fail
      repeat (first|(refine tree_skip rfl (by rfl) ?_;simp only [Act.put,List.setIfInBounds_toArray,List.set])|(refine tree_quiet (v:= ?_) rfl rfl (by rfl) ?_ ?_;rotate_left;(intro W hW;go_simp);(try with_reducible rfl);simp only [Act.put,List.setIfInBounds_toArray,List.set]))
      refine tree_store rfl rfl (by rfl) (fun K hK=> ?_)
      go_wp2_with fail
      refine tree_done ?_
      go_wp2_with fail
      go_ret
      exact ⟨0,rfl,hfin⟩
     ·exact tree_nil
theorem cut_any (w:World) (B:Nat) (r:DiskR) (nm:Name) (n:Int) (h:DiskAt w B r) (hs:nm.size≤maxLen):
  Calls Tryz.prog 43 #[.pointer (some ⟨r.d,0,none⟩),.string nm,.int .i64 n] w fun e w'=>e= .returned (.int .i64 (cutP r.p nm n).2)∧∃r',r'.p=(cutP r.p nm n).1∧DStep B w r w' r':=by
 have hmf:∀(fn:Fn) (first cap:Array Value) (w:World),(Instr.makeFunc fn first cap).run Tryz.prog w= .ok (.func fn first cap) w:=fun _ _ _ _=>rfl
 have hb2:Below w.heap.size w (w.alloc (.cells #[.int .i64 n] 3)):=(Below.refl _ _).alloc (Nat.le_refl _) _
 have h2:=h.old hb2
 go_enter Tryz.func43,Tryz.ntmps43
 go_wp2_with fail
 refine (may_any h2 hs 104 _ cut_enter (CutRes B w r nm n) ?_ ?_ ?_).mono ?_
 ·intro hdn
  have e:cutP r.p nm n=(r.p,5):=by simp [cutP,mayP,DiskR.p,hdn]
  unfold CutRes
  rw [e]
  exact ⟨rfl,r,rfl,DStep.quiet h hb2⟩
 ·intro hdn hno
  have e:cutP r.p nm n=(r.p,4):=by unfold cutP mayP;rw [findP_no hno];simp [DiskR.p,hdn]
  unfold CutRes
  rw [e]
  exact ⟨rfl,r,rfl,DStep.quiet h hb2⟩
 ·intro f hf hn hdn
  subst hn
  refine (cut1_any _ B r f h2 hdn hf _ n (Blk.new _ _ _)).mono ?_
  rintro e w1 ⟨v,rfl,hv,r',hr',hs'⟩
  exact ⟨v,rfl,hv,r',hr',hs'.pre hb2⟩
 ·rintro e w1 ⟨v,rfl,hv,r',hr',hs'⟩
  go_wp2_with fail
  go_ret
  refine ⟨?_,r',hr',hs'⟩
  rw [←hv];rfl
theorem make_step {w w1 w2:World} {B:Nat} {r:DiskR} {nm:Name} (h:DiskAt w B r) (hB:B≤w.heap.size) (hno:∀f∈r.fs,f.nm≠nm) (hnm:okName nm=true) (hct:r.fs.length<64)
  (hw1:w1=w.alloc (.cells #[.slice none 0 0,.int .i64 0] 112)) (hm:GMap w2 Tryz.prog 9 Rp r.m (r.fs.map entryR++ [(nameL nm,.lit (.int .i64 (w.heap.size:Int)))])) (ht:w1.mapTurned w2 r.m):
  DStep B w r w2 {r with fs:=r.fs++ [⟨nm,w.heap.size,none,0,[],0⟩]}:=by
 have hb1:Below w.heap.size w w1:=by rw [hw1];exact (Below.refl _ _).alloc (Nat.le_refl _) _
 have hnew:Blk w1 w.heap.size #[.slice none 0 0,.int .i64 0] 112:=by rw [hw1];exact Blk.new _ _ _
 have hg:=ht.grown
 have hk:∀x,x≠r.m→x<w.heap.size→w2.heap[x]? =w.heap[x]? :=fun x h1 h2=>(hg.block x (Nat.lt_of_lt_of_le h2 hb1.size) (fun e=>h1 (by simpa using e))).trans (hb1.block x h2)
 have hml:=h.map.lt
 have hnewm:w.heap.size≠r.m:=by omega
 have hfile:FileAt w2 B ⟨nm,w.heap.size,none,0,[],0⟩:=⟨(hg.block _ hnew.lt (fun e=>hnewm (by simpa using e))).trans hnew,hB,Mid.nil' _ _ _⟩
 have hmem:∀g∈r.fs++ [(⟨nm,w.heap.size,none,0,[],0⟩:FileR)],g∈r.fs∨g=⟨nm,w.heap.size,none,0,[],0⟩:=fun g hg=>by simpa using hg
 have hold:∀g∈r.fs,FileAt w2 B g:=fun g hg=>(h.files g hg).keep (hk _ (h.ne_map (h.files g hg).blk) (h.files g hg).blk.lt) (fun x hx=>by
  obtain ⟨_,h2,cur,hcur⟩:=(h.files g hg).row.lt hx
  exact hk x (h.ne_map hcur) h2)
 refine ⟨(Turn.of_below (F:=foot r) hb1).trans (Turn.of_grown (F:=foot r) hg (fun k e=>by cases e;exact .inr (.inl rfl))) (fun _ hk=> .inl hk),?_,?_,rfl⟩
 ·refine ⟨h.ged,h.gem,?_,?_,?_,?_,?_,?_⟩
  ·exact (hk _ (h.ne_map h.blk) h.blk.lt).trans h.blk
  ·rw [List.map_append];exact hm
  ·intro g hg
   rcases hmem g hg with hg|rfl
   ·exact hold g hg
   ·exact hfile
  ·rw [List.pairwise_append]
   refine ⟨h.apart,List.pairwise_singleton _ _,fun f hf g hg=> ?_⟩
   obtain rfl:=List.mem_singleton.1 hg
   refine ⟨?_,fun x _=>by simp [rowB]⟩
   have:=(h.files f hf).blk.lt
   show f.blk≠w.heap.size
   omega
  ·refine h.plan.keepAt fun x hx=> ?_
   obtain ⟨_,h2,cur,hcur⟩:=h.plan.block_lt hx
   exact hk _ (h.ne_map hcur) h2
  ·have hp:DiskR.p {r with fs:=r.fs++ [⟨nm,w.heap.size,none,0,[],0⟩]}={r.p with fs:=r.p.fs++ [⟨nm,[],0⟩]}:=by simp [DiskR.p,FileR.p]
   rw [hp]
   have hm':∀g∈r.p.fs++ [(⟨nm,[],0⟩:FileP)],g∈r.p.fs∨g=⟨nm,[],0⟩:=fun g hg=>by simpa using hg
   refine ⟨?_,?_,?_,?_,?_,h.ok.left⟩
   ·show ((r.p.fs++ [(⟨nm,[],0⟩:FileP)]).map (·.name)).Nodup
    rw [List.map_append,List.nodup_append]
    refine ⟨h.ok.names,by simp,?_⟩
    intro a ha b hb e
    obtain rfl:b=nm:=by simpa using hb
    obtain ⟨g,hg,e2⟩:=List.mem_map.1 ha
    obtain ⟨g0,hg0,rfl⟩:=List.mem_map.1 hg
    exact hno g0 hg0 (e2.trans e)
   ·intro g hg
    rcases hm' g hg with hg|rfl
    ·exact h.ok.named g hg
    ·exact hnm
   ·intro g hg
    rcases hm' g hg with hg|rfl
    ·exact h.ok.sure g hg
    ·exact Nat.le_refl _
   ·intro g hg
    rcases hm' g hg with hg|rfl
    ·exact h.ok.size g hg
    ·exact Nat.zero_le _
   ·show (r.p.fs++ [(⟨nm,[],0⟩:FileP)]).length≤64
    have:r.p.fs.length=r.fs.length:=by simp [DiskR.p]
    simp;omega
 ·rintro x (hx|hx|⟨g,hg1,hx⟩|hx)
  ·exact .inl (.inl hx)
  ·exact .inl (.inr (.inl hx))
  ·rcases hmem g hg1 with hg|rfl
   ·exact .inl (.inr (.inr (.inl ⟨g,hg,hx⟩)))
   ·rcases hx with hx|hx
    ·exact .inr (by subst hx;exact Nat.le_refl _)
    ·simp [rowB] at hx
  ·exact .inl (.inr (.inr (.inr hx)))
set_option maxHeartbeats 1000000 in
theorem make_any (w:World) (B:Nat) (r:DiskR) (nm:Name) (h:DiskAt w B r) (hB:B≤w.heap.size) (hs:nm.size≤maxLen):
  Calls Tryz.prog 15 #[.pointer (some ⟨r.d,0,none⟩),.string nm] w fun e w'=>e= .returned (.int .i64 (makeP r.p nm).2)∧∃r',r'.p=(makeP r.p nm).1∧DStep B w r w' r':=by
 have hb:=h.blk.rule
 unfold headV at hb
 cases hdn:r.down with
 |true=>
  rw [hdn] at hb
  have HE:=Lib.hid (show makeP r.p nm=(r.p,5) by simp [makeP,DiskR.p,hdn])
  go_enter Tryz.func15,Tryz.ntmps15
  go_wp2_with fail
  go_ret
  exact ⟨by rw [HE.out];rfl,r,by rw [HE.out],DStep.refl h⟩
 |false=>
  rw [hdn] at hb
  cases hnm:okName nm with
  |false=>
   have HE:=Lib.hid (show makeP r.p nm=(r.p,2) by simp [makeP,DiskR.p,hdn,hnm])
   go_enter Tryz.func15,Tryz.ntmps15
   go_wp2_with (go_at_call 60;refine (named_any nm _).mono ?_;rw [hnm];rintro e w1 ⟨rfl,rfl⟩)
   go_ret
   exact ⟨by rw [HE.out];rfl,r,by rw [HE.out],DStep.refl h⟩
  |true=>
   rcases findR r.fs nm with ⟨f,hf,h1,h2⟩|⟨h1,h2⟩
   ·have hl:=h.look hs hf h1
    have HE:=Lib.hid (show makeP r.p nm=(r.p,101) by
     have:findP r.p nm=some f.p:=h2
     simp [makeP,DiskR.p,hdn,hnm] at this⊢
     rw [this];simp)
    go_enter Tryz.func15,Tryz.ntmps15
    go_wp2_with (go_at_call 60;refine (named_any nm _).mono ?_;rw [hnm];rintro e w1 ⟨rfl,rfl⟩)
    go_ret
    exact ⟨by rw [HE.out];rfl,r,by rw [HE.out],DStep.refl h⟩
   ·have hl:=h.look_no hs h1
    have hlen:=h.map.len Tryz.underlying83 3
    rw [List.length_map] at hlen
    have hct:=h.ok.count
    have hct':r.fs.length≤64:=by simpa [DiskR.p] using hct
    by_cases hfull:64≤r.fs.length
    ·have HE:=Lib.hid (show makeP r.p nm=(r.p,100) by
      have:findP r.p nm=none:=h2
      simp [makeP,DiskR.p,hdn,hnm,hfull] at this⊢
      rw [this])
     have t0:decide ((64:Int)≤(r.fs.length:Int))=true:=by simp;omega
     go_enter Tryz.func15,Tryz.ntmps15
     go_wp2_with (go_at_call 60;refine (named_any nm _).mono ?_;rw [hnm];rintro e w1 ⟨rfl,rfl⟩)
     go_ret
     exact ⟨by rw [HE.out];rfl,r,by rw [HE.out],DStep.refl h⟩
    ·have HE:=Lib.hid (show makeP r.p nm=({r.p with fs:=r.p.fs++ [⟨nm,[],0⟩]},0) by
      have:findP r.p nm=none:=h2
      simp [makeP,DiskR.p,hdn,hnm,hfull] at this⊢
      rw [this])
     have t0:decide ((64:Int)≤(r.fs.length:Int))=false:=by simp;omega
     obtain ⟨w2,hrun,hm2,ht2⟩:=(h.map.keep (w':=w.alloc (.cells #[.slice none 0 0,.int .i64 0] 112)) (Below.heap_alloc _ _ _ h.map.lt)).add keyS Tryz.underlying83 (by unfold maxLen;rw [List.length_map];omega) (Go.WideMaps.keyOf_string_mk Tryz.underlying9 hs) (Rp_mk w.heap.size) (by
      rw [entry_keys]
      intro hm
      obtain ⟨f,hf,e⟩:=List.mem_map.1 hm
      exact h1 f hf (nameL_inj e))
     go_enter Tryz.func15,Tryz.ntmps15
     go_wp2_with (go_at_call 60;refine (named_any nm _).mono ?_;rw [hnm];rintro e w1 ⟨rfl,rfl⟩)
     go_ret
     exact ⟨by rw [HE.out];rfl,_,by rw [HE.out];simp [DiskR.p,FileR.p],make_step h hB h1 hnm (by omega) rfl hm2 ht2⟩
theorem piecesLen (l:PlanP):(l.flatMap pieceV).length=l.length*2:=flatMap_len (g:=pieceV) (sz:=2) (fun _=>rfl) l
theorem pieces_one (l:PlanP):∀u∈l.flatMap pieceV,u.oneCell'=true:=by
 intro u hu
 obtain ⟨x,_,hx⟩:=List.mem_flatMap.1 hu
 rcases List.mem_cons.1 hx with rfl|hx
 ·rfl
 ·rcases List.mem_cons.1 hx with rfl|hx
  ·rfl
  ·cases hx
theorem clonep_any (a:Option Addr) (len cap:Nat) (l:PlanP) (w:World) (hl:RowAt w a (l.flatMap pieceV)) (hlen:l.length=len) (hm:len*24≤140737488355328):
  Calls Tryz.prog 72 #[.slice a len cap] w fun e w'=>∃a' c',e= .returned (.slice a' len c')∧Own w' w.heap.size 130 2 a' len c' (l.flatMap pieceV)∧Below w.heap.size w w':=by
 have HL:=Lib.hid hlen
 clear hlen
 have q:∀(w:World) (a:Option Addr) (n c n' c':Nat),(binOp .eql 47 (.slice a n c) (.slice none n' c')).run Tryz.prog w= .ok (.bool a.isNone) w:=fun w a n c n' c'=>Lib.run_eql_slice_nil w _ _ a n c n' c' Tryz.underlying47
 cases a with
 |none=>
  have hl0:l=[]:=by
   refine List.eq_nil_of_length_eq_zero (Nat.eq_zero_of_not_pos fun h=> ?_)
   obtain ⟨_,_,e,_⟩:=hl 0 (by rw [piecesLen];omega)
   cases e
  subst hl0
  have h0:len=0:=HL.out.symm
  go_enter Tryz.func72,Tryz.ntmps72
  go_wp2_with fail
  go_ret
  exact ⟨none,0,by rw [h0];rfl,by rw [h0];exact Own.nil _ _ _ _,Below.refl _ _⟩
 |some x=>
  go_enter Tryz.func72,Tryz.ntmps72
  have hown:Own (w.alloc (.cells #[] 130)) w.heap.size 130 2 (some ⟨w.heap.size,0,none⟩) 0 0 []:=by
   refine ⟨by simp,.inr ⟨w.heap.size,0,#[],rfl,Nat.le_refl _,heap_alloc_new w _,Nat.le_refl _,by unfold maxLen;omega,by simp,by simp⟩⟩
  go_wp2_with (at_builtin;refine wpList_append_row rfl _ _ 47 rfl planT rfl hown rfl (hl.alloc _) (by rw [piecesLen,HL.out]) (pieces_one _) (by unfold maxLen;omega) (by omega) (by simp) ?_)
  intro a1 c1 w1 hown1 hg1
  go_wp2_with fail
  go_ret
  refine ⟨a1,c1,?_,?_,hown.grown ((Below.refl _ _).alloc (Nat.le_refl _) _) (Nat.le_refl _) hg1 (by simp)⟩
  ·first|rfl|simp
  ·simpa using hown1
def nmA:Name:=⟨#[97]⟩
def wk0:DiskP:=⟨[],false,false,0,[]⟩
def wk1:DiskP:=⟨[⟨nmA,[],0⟩],false,false,0,[]⟩
def wk2:DiskP:=⟨[⟨nmA,[1,2,3],0⟩],false,false,0,[]⟩
def wk3:DiskP:=⟨[⟨nmA,[1,2,3],3⟩],false,false,0,[]⟩
def wk4:DiskP:=⟨[⟨nmA,[1,2,3,4,5],3⟩],false,false,0,[]⟩
def wk5:DiskP:=⟨[⟨nmA,[1,2,3,4],4⟩],true,false,0,[]⟩
def wk6:DiskP:=⟨[⟨nmA,[1,2,3,4],4⟩],false,false,0,[]⟩
theorem k1:makeP wk0 nmA=(wk1,0):=by rfl
theorem k2:appendP wk1 nmA [1,2,3]=(wk2,0):=by rfl
theorem k3:syncP wk2 nmA=(wk3,0):=by rfl
theorem k4:appendP wk3 nmA [4,5]=(wk4,0):=by rfl
theorem k5:crashAll wk4 [(nmA,1)]=(wk5,0):=by rfl
theorem k6:appendP wk5 nmA []=(wk5,5):=by rfl
theorem k7:openP wk5=(wk6,0):=by rfl
theorem RowAt.turn {w w':World} {F:Nat→Prop} {a:Option Addr} {vs:List Value} (h:RowAt w a vs) (ht:Turn F w w') (hna:∀ad,a=some ad→¬F ad.block):RowAt w' a vs:=by
 intro i hi
 obtain ⟨b,o,h1,h2⟩:=h i hi
 exact ⟨b,o,h1,(World.cell?_of_block (a:=⟨b,o+i,none⟩) (ht.block b (World.block_lt_of_cell? w _ h2) (hna _ h1))).trans h2⟩
theorem new_any' (w:World):Calls Tryz.prog 10 #[] w fun e w'=>∃r,e= .returned (.pointer (some ⟨r.d,0,none⟩))∧Hid (r.p=wk0)∧DiskAt w' w.heap.size r∧Below w.heap.size w w':=
 (new_any w).mono (by rintro e w' ⟨rfl,h1,h2,_⟩;exact ⟨newR w,rfl,Lib.hid rfl,h1,h2⟩)
theorem after {f:Nat} {args:Array Value} {w:World} {B:Nat} {r:DiskR} {p q:DiskP} {v:Int} {x:DiskP→DiskP×Int} (hp:Hid (r.p=p)) (hx:x p=(q,v)) (hr:DiskAt w B r) (hB:B≤w.heap.size)
  (h:Calls Tryz.prog f args w fun e w'=>e= .returned (.int .i64 (x r.p).2)∧∃r',r'.p=(x r.p).1∧DStep B w r w' r'):
  Calls Tryz.prog f args w fun e w'=>e= .returned (.int .i64 v)∧∃r',Hid (r'.p=q)∧DiskAt w' B r'∧Hid (r'.d=r.d)∧Below B w w':=by
 rw [hp.out,hx] at h
 refine h.mono ?_
 rintro e w' ⟨rfl,r',hr',hs⟩
 exact ⟨rfl,r',Lib.hid hr',hs.at',Lib.hid hs.d,hs.below hr hB⟩
end
section
open Go.RowKit
section
variable {w w':World} {B:Nat} {T t:TypeId} {a a':Option Addr} {n c n' c':Nat}
theorem Own.other {B':Nat} {vs us:List Value} {A:Option Addr} {m C:Nat} (h:Own w B t 1 A m C us) (ho:Own w B' T 1 a n c vs) (hne:T≠t) (hg:w.grownBy w' (Value.slice a n c).ownBlock):Own w' B t 1 A m C us:=by
 refine ⟨h.1,?_⟩
 rcases h.2 with h2|⟨g,cap,cur,h1,h2,h3,h4⟩
 ·exact .inl h2
 ·refine .inr ⟨g,cap,cur,h1,h2,?_,h4⟩
  refine (hg.block g (Array.getElem?_eq_some_iff.1 h3).1 fun e=> ?_).trans h3
  rcases ho.2 with ⟨k1,_⟩|⟨g',cap',cur',k1,_,k3,_⟩
  ·rw [k1] at e;cases e
  ·rw [k1] at e
   cases e
   rw [h3] at k3
   simp only [Option.some.injEq,Obj.cells.injEq] at k3
   exact hne k3.2.1.symm
def OwnPieces (w:World) (B:Nat) (T t:TypeId) (a:Option Addr) (n c:Nat) (vs:List Value) (ls:List (List UInt8)):Prop:=
 Own w B T 1 a n c vs∧vs.length=ls.length∧∀r (h:r<ls.length),∃A C,vs[r]? =some (.slice A ls[r].length C)∧Own w B t 1 A ls[r].length C (ls[r].map bv)
theorem OwnPieces.nil (w:World) (B:Nat) (T t:TypeId):OwnPieces w B T t none 0 0 [] []:=⟨Own.nil _ _ _ _,rfl,fun r h=>by simp at h⟩
theorem OwnPieces.old {vs:List Value} {ls:List (List UInt8)} (h:OwnPieces w B T t a n c vs ls) (hb:Below w.heap.size w w'):OwnPieces w' B T t a n c vs ls:=
 ⟨h.1.old hb,h.2.1,fun r hr=>by obtain ⟨A,C,h1,h2⟩:=h.2.2 r hr;exact ⟨A,C,h1,h2.old hb⟩⟩
theorem OwnPieces.drew {vs:List Value} {ls:List (List UInt8)} (h:OwnPieces w B T t a n c vs ls) (k:Nat):OwnPieces (w.drewN k) B T t a n c vs ls:=
 h.old (below_drewN (Below.refl _ _) k)
theorem OwnPieces.length {vs:List Value} {ls:List (List UInt8)} (h:OwnPieces w B T t a n c vs ls):ls.length=n:=by
 have:=h.1.1
 rw [←h.2.1];omega
theorem OwnPieces.snoc {B':Nat} {vs:List Value} {ls:List (List UInt8)} (h:OwnPieces w B T t a n c vs ls) (hne:T≠t) (hg:w.grownBy w' (Value.slice a n c).ownBlock) {x:List UInt8} {A:Option Addr} {m C:Nat} (hm:x.length=m)
  (hx:Own w B' t 1 A m C (x.map bv)) (hB:B≤B') (h':Own w' B T 1 a' n' c' (vs++ [.slice A m C])):OwnPieces w' B T t a' n' c' (vs++ [.slice A m C]) (ls++ [x]):=by
 subst hm
 refine ⟨h',by simp [h.2.1],fun r hr=> ?_⟩
 by_cases hlt:r<ls.length
 ·obtain ⟨A1,C1,h1,h2⟩:=h.2.2 r hlt
  rw [List.getElem_append_left hlt]
  refine ⟨A1,C1,?_,h2.other h.1 hne hg⟩
  rw [List.getElem?_append_left (by rw [h.2.1];exact hlt)]
  exact h1
 ·have:r=ls.length:=by simp at hr;omega
  subst this
  simp only [List.getElem_concat_length]
  refine ⟨A,C,?_,(hx.lower hB).other h.1 hne hg⟩
  rw [←h.2.1]
  simp
end
end
end Go.Proofs.YtioigihakjlopaaGreat

/- Texts put together and cut to what is used: DiskCrash, DiskOps, DiskApp, DiskCalls. -/
import Derived.Test.YtioigihakjlopaaGreatVB10
import Derived.Shelf.Abstract
namespace Go.Proofs.YtioigihakjlopaaGreat
set_option linter.unusedVariables false
set_option linter.unusedSimpArgs false
section
open Go.RowKit Go.Maps
theorem wpList_range_map {w:World} {ops:Array Oper} {rest:List Oper} {o:Oper} {a:Act} {Q:Exit→Act→World→Prop} {P:Program} {k e:TypeId} {R:Value→Option (DU×List MemPlace)} {M:Nat} {l:List (Lit×DU)} (hg:o.guard=none) (m:Operand) (t:TypeId) (hop:o.op=Op.range t m) (K:Keyed P k) (ht:P.underlying t=some (.map k e))
  (hm:a.eval m= .map (some M)) (h:GMap w P k R M l)
  (hK:∀w',GRan w' P k R M w.heap.size l l→w.grownBy w' none→w'.heap.size=w.heap.size+1→wpList P ops Q rest (a.put o.dst (.pointer (some ⟨w.heap.size,0,none⟩))) w'):
  wpList P ops Q (o::rest) a w:=by
 refine wpList_plain hg fun K' hK'=> ?_
 obtain ⟨w',hrun,r1,r2,r3⟩:=h.range K ht
 unfold Oper.wp
 simp [execOp,hop,hm,hrun,Result.andThen]
 exact hK' _ _ (hK w' r1 r2 r3)
def crashR (plan:PlanP) (f:FileR):FileR:={f with b:=f.b.take (f.sure+keepN plan f.p),sure:=f.sure+keepN plan f.p}
theorem crashR_p (plan:PlanP) (f:FileR):(crashR plan f).p=crashF plan f.p:=rfl
def fsNow (fs ys:List FileR) (plan:PlanP):List FileR:=fs.map fun f=>if ys.any (fun g=>decide (g.nm=f.nm)) then f else crashR plan f
theorem fsNow_all (fs:List FileR) (plan:PlanP):fsNow fs fs plan=fs:=by
 unfold fsNow
 rw [List.map_congr_left (g:=id),List.map_id]
 intro f hf
 rw [if_pos (List.any_eq_true.2 ⟨f,hf,by simp⟩)];rfl
theorem fsNow_none (fs:List FileR) (plan:PlanP):fsNow fs [] plan=fs.map (crashR plan):=by
 unfold fsNow
 refine List.map_congr_left fun f hf=> ?_
 rw [if_neg (by simp)]
theorem fsNow_step (fs ys:List FileR) (plan:PlanP) (hn:(fs.map (·.nm)).Nodup) (hs:∀y∈ys,y∈fs) {f:FileR} (hf:f∈ys):fsNow fs (ys.filter fun g=>decide (g.nm≠f.nm)) plan=updR (fsNow fs ys plan) f.nm (crashR plan):=by
 unfold fsNow updR
 rw [List.map_map]
 refine List.map_congr_left fun g hg=> ?_
 simp only [Function.comp]
 by_cases e:g.nm=f.nm
 ·rw [if_neg (by
   rw [List.any_eq_true]
   rintro ⟨x,hx,he⟩
   have h1:=(List.mem_filter.1 hx).2
   simp only [decide_eq_true_eq] at h1 he
   exact h1 (he.trans e)),if_pos (show (ys.any fun g_1=>decide (g_1.nm=g.nm))=true from List.any_eq_true.2 ⟨f,hf,by simp [e]⟩),if_pos e]
 ·have e1:((ys.filter fun g=>decide (g.nm≠f.nm)).any fun x=>decide (x.nm=g.nm))=ys.any fun x=>decide (x.nm=g.nm):=by
   rw [Bool.eq_iff_iff,List.any_eq_true,List.any_eq_true]
   constructor
   ·rintro ⟨x,hx,he⟩
    exact ⟨x,(List.mem_filter.1 hx).1,he⟩
   ·rintro ⟨x,hx,he⟩
    refine ⟨x,List.mem_filter.2 ⟨hx,?_⟩,he⟩
    simp only [decide_eq_true_eq] at he⊢
    rw [he];exact e
  rw [e1]
  by_cases e2:(ys.any fun x=>decide (x.nm=g.nm))=true
  ·rw [if_pos e2,if_neg e]
  ·rw [if_neg e2,if_neg (show ¬(crashR plan g).nm=f.nm from e)]
theorem fsNow_mem {fs ys:List FileR} {plan:PlanP} {x:FileR} (h:x∈fsNow fs ys plan):∃f∈fs,x.nm=f.nm∧x.blk=f.blk∧x.a=f.a∧x.c=f.c:=by
 obtain ⟨f,hf,rfl⟩:=List.mem_map.1 h
 refine ⟨f,hf,?_⟩
 split<;>exact ⟨rfl,rfl,rfl,rfl⟩
theorem keep_none {plan:PlanP} {f:FileP} (h:∀x∈plan,x.1≠f.name):keepN plan f=0:=by
 unfold keepN
 rw [if_neg]
 ·rfl
 ·rw [List.any_eq_true]
  rintro ⟨x,hx,e⟩
  exact h x hx (of_decide_eq_true e)
theorem keep_some {plan:PlanP} {f:FileP} {i:Nat} (hi:i<plan.length) (h1:plan[i].1=f.name) (h2:∀j (hj:j<plan.length),j<i→plan[j].1≠f.name):keepN plan f=(min (max plan[i].2 0) ((f.b.length:Int)-f.sure)).toNat:=by
 have hf:(plan.find? fun x=>decide (x.1=f.name))=some plan[i]:=by
  rw [List.find?_eq_some_iff_getElem]
  exact ⟨by simp [h1],i,hi,rfl,fun j hj=>by simpa using h2 j (by omega) hj⟩
 unfold keepN keepI
 rw [if_pos (List.any_eq_true.2 ⟨plan[i],List.getElem_mem hi,by simp [h1]⟩),hf]
 rfl
structure CrashRel (w:World) (B:Nat) (r:DiskR) (plan:PlanP) (pa:Option Addr) (it:Nat) (ys:List FileR) (wr:World):Prop where
 sub:∀y∈ys,y∈r.fs
 ran:GRan wr Tryz.prog 9 Rp r.m it (r.fs.map entryR) (ys.map entryR)
 disk:DiskAt wr B {r with fs:=fsNow r.fs ys plan}
 turn:Turn (foot r) w wr
 plan:RowAt wr pa (plan.flatMap pieceV)
 it:w.heap.size≤it
set_option maxHeartbeats 2000000 in
set_option maxRecDepth 20000 in
theorem crash_any (w:World) (B:Nat) (r:DiskR) (pa:Option Addr) (pn pc:Nat) (plan:PlanP) (h:DiskAt w B r) (hB:B≤w.heap.size) (hp:RowAt w pa (plan.flatMap pieceV)) (hpn:plan.length=pn) (hpm:pn≤maxLen)
  (hpf:∀ad,pa=some ad→plan≠ []→∀f∈r.fs,f.blk≠ad.block) (hpo:∀ad,pa=some ad→plan≠ []→ad.block<w.heap.size):
  Calls Tryz.prog 24 #[.pointer (some ⟨r.d,0,none⟩),.slice pa pn pc] w fun e w'=>∃r',e= .returned (.int .i64 (crashAll r.p plan).2)∧r'.p=(crashAll r.p plan).1∧DStep B w r w' r':=by
 have HP:=Lib.hid hpn
 clear hpn
 have hb:=h.blk.rule
 have hfr:=h.blk.free
 unfold headV at hb
 have hmf:∀(fn:Fn) (first cap:Array Value) (w:World),(Instr.makeFunc fn first cap).run Tryz.prog w= .ok (.func fn first cap) w:=fun _ _ _ _=>rfl
 cases hdn:r.down with
 |true=>
  rw [hdn] at hb
  go_enter Tryz.func24,Tryz.ntmps24
  go_wp2_with fail
  go_ret
  refine ⟨r,?_,?_,DStep.refl h⟩
  ·simp [crashAll,DiskR.p,hdn]
  ·simp [crashAll,DiskR.p,hdn]
 |false=>
  rw [hdn] at hb
  go_enter Tryz.func24,Tryz.ntmps24
  go_wp2_with (at_range;refine wpList_range_map rfl _ _ rfl keyS Tryz.underlying83 rfl h.map ?_;intro w0 hg0 hgr0 hsz0)
  go_frame
  go_loopw [22] (fun _ wr=>∃ys,CrashRel w B r plan pa w.heap.size ys wr) (fun _ wr=>wr.rangeLeft r.m w.heap.size)
  case atStart=>
   have hb0:Below w.heap.size w w0:=⟨hgr0.os,hgr0.tape,hgr0.output,by omega,fun k hk=>hgr0.block k hk (by simp)⟩
   refine ⟨r.fs,fun _ hy=>hy,hg0,?_,Turn.of_below hb0,hp.below hb0,Nat.le_refl _⟩
   rw [fsNow_all]
   exact h.old hb0
  case round=>
   obtain ⟨ys,H⟩:=hrel
   clear hb hfr
   go_wp2_with (at_next;refine wpList_next_file rfl _ rfl rfl H.ran ?_ ?_)
   ·intro h0
    subst h0
    have hb:=H.disk.blk.rule
    have hfr:=H.disk.blk.free
    unfold headV at hb
    dsimp only at hb hfr
    rw [hdn] at hb
    go_wp2_with fail
    go_ret
    have hblk:Blk ((wr.setCell ⟨r.d,1,none⟩ (.bool true)).setCell ⟨r.d,2,none⟩ (.bool false)) r.d (headV {r with fs:=fsNow r.fs [] plan,down:=true,armed:=false}) 85:=(H.disk.blk.set 1 _).set 2 _
    refine ⟨{r with fs:=fsNow r.fs [] plan,down:=true,armed:=false},?_,?_,?_,?_,?_,rfl⟩
    ·simp [crashAll,DiskR.p,hdn]
    ·simp only [crashAll,DiskR.p,hdn,crashP,fsNow_none]
     simp [crashR_p]
    ·exact (H.turn.setCell (.inl (.inl rfl)) _).setCell (.inl (.inl rfl)) _
    ·exact H.disk.head _ rfl rfl rfl rfl rfl rfl h.ok.left hblk fun x hx=>by rw [heap_setCell_other _ _ _ _ hx,heap_setCell_other _ _ _ _ hx]
    ·rintro x (hx|hx|⟨f,hf,hx⟩|hx)
     ·exact .inl (.inl hx)
     ·exact .inl (.inr (.inl hx))
     ·obtain ⟨g,hg,_,e2,e3,e4⟩:=fsNow_mem hf
      rw [e2,e3,e4] at hx
      exact .inl (.inr (.inr (.inl ⟨g,hg,hx⟩)))
     ·exact .inl (.inr (.inr (.inr hx)))
   ·intro f hf w1 hgr0 hlt1 hgb1 hsz1 hen
    have HG:=Lib.hid hgr0
    clear hgr0
    have hfr:=H.sub f hf
    have hfm:f∈fsNow r.fs ys plan:=List.mem_map.2 ⟨f,hfr,by rw [if_pos (List.any_eq_true.2 ⟨f,hf,by simp⟩)]⟩
    have hfa:=H.disk.files f hfm
    have hfl:f.blk<w.heap.size:=(h.files f hfr).blk.lt
    have hit:=H.it
    have hne:f.blk≠w.heap.size:=by omega
    have hok:=H.disk.ok.sure f.p (List.mem_map.2 ⟨f,hfm,rfl⟩)
    have hokz:=H.disk.ok.size f.p (List.mem_map.2 ⟨f,hfm,rfl⟩)
    have hfB1:Blk w1 f.blk #[.slice f.a f.b.length f.c,.int .i64 (f.sure:Int)] 112:=(hgb1.block _ hfa.blk.lt (by simp [hne])).trans hfa.blk
    have hp1:RowAt w1 pa (plan.flatMap pieceV):=by
     by_cases hpn:plan=[]
     ·subst hpn;exact RowAt.nil _ _
     ·exact H.plan.keepAt fun x hx=>hgb1.block _ (by have:=hpo x hx hpn;have:=H.turn.size;omega) (by have:=hpo x hx hpn;simp;omega)
    go_wp2_with fail
    have hBx:Blk (w1.alloc (.cells #[.string f.nm] 9)) wr.heap.size #[.string f.nm] 9:=by rw [←hsz1];exact Blk.new _ _ _
    have hb12:Below w1.heap.size w1 (w1.alloc (.cells #[.string f.nm] 9)):=(Below.refl _ _).alloc (Nat.le_refl _) _
    refine (index_any pa pn pc plan wr.heap.size f.nm _ (hBx.cell rfl) (hp1.below hb12) HP.out hpm).mono ?_
    rintro e w2 ⟨k,rfl,hb2,hcase⟩
    have hb12:Below w1.heap.size w1 w2:=below_step hb12 hb2
    have hfB2:=hfB1.old hb12
    have hp2:=hp1.below hb12
    obtain ⟨K,hK⟩:∃K,K=keepN plan f.p:=⟨_,rfl⟩
    have hKle:f.sure+K≤f.b.length:=by rw [hK];exact keepN_le plan f.p hok
    have hfz:f.b.length≤1048576:=hokz
    have hw1:IntKind.i64.wrap ((f.sure:Int)+(K:Int))=((f.sure+K:Nat):Int):=by rw [IntKind.wrap_i64];omega
    have HK:=Lib.hid hK
    have HC:=Lib.hid hcase
    clear hK hcase
    go_upto_if 31 with fail
    go_cut [7] (fun v7 wx=>v7= .int .i64 (K:Int)∧Below w2.heap.size w2 wx)
    case first=>
     have hfB:=hfB2.rule
     rcases HC.out with ⟨rfl,hno⟩|⟨i,hi,rfl,hi1,hi2⟩
     ·go_wp2_with fail
      go_meet
      case rel=>exact ⟨by rw [HK.out,keep_none hno];rfl,Below.refl _ _⟩
     ·obtain ⟨b,o,rfl,hbl,hc⟩:=hp2.elem (g:=pieceV) (sz:=2) (fun _=>rfl) (by omega) i hi
      have hc1:=hc 1 (show 1<2 by omega)
      have hi1':plan[i].1=f.p.name:=hi1
      have hKv:=keep_some (f:=f.p) hi hi1' hi2
      rw [←HK.out] at hKv
      generalize plan[i]=x at hc1 hKv
      have hc1':w2.cell? ⟨b,o+i*2+1,none⟩=some (.int .i64 x.2):=hc1
      have hin:i<pn:=by rw [←HP.out];exact hi
      have HKV:=Lib.hid hKv
      have HI1:=Lib.hid hi1
      clear hc hc1 hKv hi1 hi1' hi2
      have L1:∀W,Old w2.drew W→W.cell? ⟨b,o+i*2+1,none⟩=some (.int .i64 x.2):=fun W hW=>by rw [(hW:Below w2.heap.size w2.drew W).cell (show b<w2.heap.size from hbl)];exact hc1'
      have L2:∀W,Old w2.drew W→W.cell? ⟨f.blk,0,none⟩=some (.slice f.a f.b.length f.c):=fun W hW=>by rw [(hW:Below w2.heap.size w2.drew W).cell hfB2.lt];exact hfB 0
      have L3:∀W,Old w2.drew W→W.cell? ⟨f.blk,1,none⟩=some (.int .i64 (f.sure:Int)):=fun W hW=>by rw [(hW:Below w2.heap.size w2.drew W).cell hfB2.lt];exact hfB 1
      clear hfB hc1'
      have e1:IntKind.i64.wrap ((f.b.length:Int)-(f.sure:Int))=(f.b.length:Int)-f.sure:=by
       have hok':f.sure≤f.b.length:=hok
       rw [IntKind.wrap_i64];omega
      go_wp2_with fail
      refine wp_region_old (0::1::2::3::4::5::6::7::8::9::10::11::12::13::14::15::16::17::[]) (by kernel_rfl) (by kernel_rfl) (fun c a d v w h=>by cases d<;>exact h) ?_
      repeat (first|(refine lex_skip rfl (by rfl) ?_;simp only [Act.put,List.setIfInBounds_toArray,List.set])|(refine lex_quiet (v:= ?_) rfl rfl (by rfl) ?_ ?_;rotate_left;(intro W hW;go_simp);(try with_reducible rfl);simp only [Act.put,List.setIfInBounds_toArray,List.set]))
      refine lex_nil ?_
      go_wp2_with fail
      all_goals
       go_meet
       case rel=>
        refine ⟨?_,(Below.refl _ _).drew⟩
        have e2:K=(min (max x.2 0) ((f.b.length:Int)-f.sure)).toNat:=HKV.out
        have hok':f.sure≤f.b.length:=hok
        congr 1
        omega
    case rest=>
     obtain ⟨rfl,hbc⟩:=hcut
     have hfBc:=hfB2.old hbc
     have hfB:=hfBc.rule
     have hfr2:=hfBc.free
     have hB3:=hfBc.set 1 (.int .i64 ((f.sure:Int)+(K:Int)))
     have hfr3:=hB3.free
     have hKI:(f.sure:Int)+(K:Int)≤(f.b.length:Int):=by omega
     have hKn:0≤(f.sure:Int)+(K:Int):=by omega
     have hKt:((f.sure:Int)+(K:Int)).toNat=f.sure+K:=by omega
     have hKc:(f.sure:Int)+(K:Int)≤(f.c:Int):=by have:=hfa.row.le;omega
     have L2:∀W,Old (wc.setCell ⟨f.blk,1,none⟩ (.int .i64 ((f.sure:Int)+(K:Int)))).drew W→W.cell? ⟨f.blk,0,none⟩=some (.slice f.a f.b.length f.c):=fun W hW=>by rw [(hW:Below _ _ W).cell hB3.lt];exact hB3.rule 0
     have L3:∀W,Old (wc.setCell ⟨f.blk,1,none⟩ (.int .i64 ((f.sure:Int)+(K:Int)))).drew W→W.cell? ⟨f.blk,1,none⟩=some (.int .i64 ((f.sure:Int)+(K:Int))):=fun W hW=>by rw [(hW:Below _ _ W).cell hB3.lt];exact hB3.rule 1
     go_wp2_with fail
     clear hfB hfr2
     refine wp_region_treeR true Old Old.refl Old.trans (.step 0 (.step 1 (.step 2 (.step 3 (.step 4 (.step 5 (.step 6 (.step 7 (.step 8 (.step 9 (.step 10 (.step 11 (.step 12 .done))))))))))))) (by kernel_rfl) (by kernel_rfl) (fun c a d v w h=>by cases d<;>exact h) ?_
     repeat (first|(refine tree_skip rfl (by rfl) ?_;simp only [Act.put,List.setIfInBounds_toArray,List.set])|(refine tree_quiet (v:= ?_) rfl rfl (by rfl) ?_ ?_;rotate_left;(intro W hW;go_simp);(try with_reducible rfl);simp only [Act.put,List.setIfInBounds_toArray,List.set]))
     have c3:=hB3.rule
     refine tree_store rfl rfl (by rfl) (fun K hK=> ?_);go_wp2_with fail;refine tree_done ?_
     go_wp2_with fail
     obtain ⟨W5,hW5⟩:∃W5,W5=((wc.setCell ⟨f.blk,1,none⟩ (.int .i64 ((f.sure:Int)+(K:Int)))).setCell ⟨f.blk,0,none⟩ (.slice f.a (f.sure+K) f.c)).drew:=⟨_,rfl⟩
     have hB5:Blk W5 f.blk #[.slice f.a (f.sure+K) f.c,.int .i64 ((f.sure:Int)+(K:Int))] 112:=by rw [hW5];exact (hfBc.set 1 _).set 0 _
     have hb1c:Below w1.heap.size w1 wc:=below_step hb12 hbc
     have hk5:∀x,x≠f.blk→x<w1.heap.size→W5.heap[x]? =w1.heap[x]? :=by
      intro x hx hl
      rw [hW5]
      show ((wc.setCell _ _).setCell _ _).heap[x]? =_
      rw [heap_setCell_other _ _ _ _ hx,heap_setCell_other _ _ _ _ hx]
      exact hb1c.block x hl
     have hT5:Turn (foot r) w W5:=by
      rw [hW5]
      exact ((((H.turn.trans (Turn.of_grown (F:=fun x=>x=w.heap.size) hgb1 (fun k e=>by cases e;rfl)) (fun k hk=> .inr (by omega))).trans (Turn.of_below (F:=foot r) hb1c) (fun _ hk=> .inl hk)).setCell (.inl (.inr (.inr (.inl ⟨f,hfr,.inl rfl⟩)))) _).setCell (.inl (.inr (.inr (.inl ⟨f,hfr,.inl rfl⟩)))) _).drew
     rw [←hW5]
     clear hW5 c3 L2 L3 hB3 hfr3 hfBc hfB2 hfB1 hp2
     have hszr:=H.turn.size
     have hkr:∀x,x≠f.blk→x<w.heap.size→W5.heap[x]? =wr.heap[x]? :=fun x h1 h2=>(hk5 x h1 (by omega)).trans (hgb1.block x (by omega) (by simp;omega))
     have hgr1:=HG.out
     have hmne:r.m≠f.blk:=Ne.symm (H.disk.ne_map hfa.blk)
     have hml:=h.map.lt
     have hsame:∀g∈fsNow r.fs ys plan,g.nm=f.nm→g=f:=fun g hg e=>H.disk.same hg hfm e
     refine ⟨⟨ys.filter fun g=>decide (g.nm≠f.nm),fun y hy=>H.sub y (List.mem_filter.1 hy).1,(by simpa only [ne_eq,decide_not] using hgr1.keep (hk5 _ hmne (show r.m<w1.heap.size by omega)) (hk5 _ (Ne.symm hne) hgr1.lt)),?_,hT5,?_,Nat.le_refl _⟩,?_⟩
     ·rw [fsNow_step _ _ _ h.names H.sub hf]
      refine H.disk.upd f.nm (crashR plan) (fun _ _=>⟨rfl,rfl⟩) (hkr _ (Ne.symm (H.disk.ne_file hfm)) h.blk.lt) (hkr _ hmne hml) (fun x hx=>hkr _ (H.disk.ne_plan hx hfa.blk (by decide)) (h.plan.block_lt hx).2.1) ?_ ?_ ?_ ?_
      ·intro g hg hgn
       obtain ⟨g0,hg0,e1,e2,e3,e4⟩:=fsNow_mem hg
       refine ⟨hkr _ (Ne.symm (H.disk.apart' hfm hg (Ne.symm hgn)).1) (by rw [e2];exact (h.files g0 hg0).blk.lt),fun x hx=>hkr _ (H.disk.ne_row hg hx hfa.blk (by decide)) ?_⟩
       rw [e3,e4] at hx
       exact ((h.files g0 hg0).row.lt hx).2.1
      ·intro g hg hgn
       obtain rfl:=hsame g hg hgn
       have hlen:(g.b.take (g.sure+keepN plan g.p)).length=g.sure+K:=by rw [←HK.out,List.length_take];omega
       refine ⟨?_,hfa.ge,?_⟩
       ·show Blk W5 g.blk #[.slice g.a (g.b.take (g.sure+keepN plan g.p)).length g.c,.int .i64 ((g.sure+keepN plan g.p:Nat):Int)] _
        rw [hlen,←HK.out,Int.natCast_add]
        exact hB5
       ·show Mid W5 B 5 g.a (g.b.take (g.sure+keepN plan g.p)).length g.c ((g.b.take (g.sure+keepN plan g.p)).map bv)
        rw [hlen,←HK.out,List.map_take]
        exact (hfa.row.take (k:=g.sure+K) hKle).keep fun x hx=>hkr _ (H.disk.ne_row hg hx hfa.blk (by decide)) ((h.files g hfr).row.lt hx).2.1
      ·intro g hg hgn g2 hg2 hgn2 x hx
       obtain rfl:=hsame g hg hgn
       exact (H.disk.apart' hg hg2 (Ne.symm hgn2)).2 x hx
      ·have hp5:DiskR.p {r with fs:=updR (fsNow r.fs ys plan) f.nm (crashR plan)}=updP (DiskR.p {r with fs:=fsNow r.fs ys plan}) f.nm (crashF plan):=by
        simp only [DiskR.p,updP]
        rw [updR_p _ _ _ (crashF plan) (fun _ _ _=>rfl)]
       show DiskOk (DiskR.p {r with fs:=updR (fsNow r.fs ys plan) f.nm (crashR plan)})
       rw [hp5]
       refine H.disk.ok.upd f.nm (crashF plan) (fun _ _=>rfl) (fun g hg _=> ?_) (fun g hg _=> ?_)
       ·rw [crashF_len plan g (H.disk.ok.sure g hg)];exact Nat.le_refl _
       ·rw [crashF_len plan g (H.disk.ok.sure g hg)];exact Nat.le_trans (keepN_le plan g (H.disk.ok.sure g hg)) (H.disk.ok.size g hg)
     ·by_cases hpn:plan=[]
      ·subst hpn;exact RowAt.nil _ _
      ·exact hp1.keepAt fun x hx=>hk5 _ (Ne.symm (hpf x hx hpn f hfr)) (by have:=hpo x hx hpn;omega)
     ·have e1:=hk5 _ hmne (show r.m<w1.heap.size by omega)
      have e2:=hk5 _ (Ne.symm hne) hgr1.lt
      have e3:W5.rangeLeft r.m w.heap.size=w1.rangeLeft r.m w.heap.size:=by simp only [World.rangeLeft,e1,e2]
      rw [e3];exact hlt1
theorem KeepNot.grownM {T:TypeId} {w w':World} {B n c:Nat} {a:Option Addr} {vs:List Value} (h:Mid w B T a n c vs) (hg:w.grownBy w' (rowB a c)):KeepNot T w w':=
 ⟨hg.size,fun b cs t fr hb hne=>hg.block b (Array.getElem?_eq_some_iff.1 hb).1 (fun e=>by
  obtain ⟨_,_,cur,hcur⟩:=h.lt e.symm
  rw [hcur] at hb
  cases hb
  exact hne rfl)⟩
theorem DiskAt.planRow {w:World} {B:Nat} {r:DiskR} (h:DiskAt w B r):RowAt w r.pa (r.plan.flatMap pieceV)∧(∀ad,r.pa=some ad→∀f∈r.fs,f.blk≠ad.block)∧(∀ad,r.pa=some ad→r.plan≠ []→ad.block<w.heap.size):=
 ⟨h.plan.row,fun ad ha f hf=>Ne.symm (h.ne_plan ha (h.files f hf).blk (by decide)),fun ad ha _=>(h.plan.block_lt ha).2.1⟩
set_option maxHeartbeats 1000000 in
theorem goes_any (w:World) (B:Nat) (r:DiskR) (h:DiskAt w B r) (hB:B≤w.heap.size) (hdn:r.down=false):
  Calls Tryz.prog 62 #[.pointer (some ⟨r.d,0,none⟩)] w fun e w'=>e= .returned (.int .i64 (goesP r.p).2)∧∃r',r'.p=(goesP r.p).1∧DStep B w r w' r'∧((goesP r.p).2=0→r'.fs=r.fs):=by
 have hb:=h.blk.rule
 have hfr:=h.blk.free
 have hpl:=h.plan.le_max
 unfold headV at hb
 have hlf:=h.ok.left
 cases har:r.armed with
 |false=>
  rw [har] at hb
  have HG:=Lib.hid (show goesP r.p=(r.p,0) from by simp [goesP,DiskR.p,har])
  go_enter Tryz.func62,Tryz.ntmps62
  go_wp2_with fail
  go_ret
  exact ⟨by rw [HG.out];rfl,r,by rw [HG.out],DStep.refl h,fun _=>rfl⟩
 |true=>
  rw [har] at hb
  by_cases hl:0<r.left
  ·have HG:=Lib.hid (show goesP r.p=({r.p with left:=r.left-1},0) from by simp [goesP,DiskR.p,har,hl])
   have hlf':0≤r.left∧r.left≤9223372036854775807:=hlf
   have hw1:IntKind.i64.wrap (r.left-1)=r.left-1:=by rw [IntKind.wrap_i64];omega
   go_enter Tryz.func62,Tryz.ntmps62
   go_wp2_with fail
   go_ret
   have hblk:Blk (w.setCell ⟨r.d,3,none⟩ (.int .i64 (r.left-1))) r.d (headV {r with left:=r.left-1}) 85:=by
    have:=h.blk.set 3 (.int .i64 (r.left-1))
    exact this
   refine ⟨by rw [HG.out];rfl,{r with left:=r.left-1},by rw [HG.out];rfl,⟨?_,?_,fun x hx=> .inl (foot_head rfl rfl rfl rfl hx),rfl⟩,fun _=>rfl⟩
   ·exact (Turn.refl _ _).setCell (.inl (.inl rfl)) _
   ·exact h.head _ rfl rfl rfl rfl rfl rfl (by show 0≤r.left-1∧r.left-1≤_;omega) hblk fun x hx=>heap_setCell_other _ _ _ _ hx
  ·have HG:=Lib.hid (show goesP r.p=(crashP r.p r.p.plan,5) from by simp [goesP,DiskR.p,har,hl])
   obtain ⟨hp1,hp2,hp3⟩:=h.planRow
   go_enter Tryz.func62,Tryz.ntmps62
   go_wp2_with fail
   refine (crash_any w B r r.pa _ _ r.plan h hB hp1 rfl hpl (fun ad ha _=>hp2 ad ha) hp3).mono ?_
   rintro e w1 ⟨r',rfl,hr',hs⟩
   go_wp2_with fail
   go_ret
   have hc:crashAll r.p r.plan=(crashP r.p r.p.plan,0):=by simp [crashAll,DiskR.p,hdn]
   exact ⟨by rw [HG.out];rfl,r',by rw [HG.out,hr',hc],hs,fun e=>by rw [HG.out] at e;cases e⟩
theorem open_any (w:World) (B:Nat) (r:DiskR) (h:DiskAt w B r):
  Calls Tryz.prog 25 #[.pointer (some ⟨r.d,0,none⟩)] w fun e w'=>e= .returned (.int .i64 (openP r.p).2)∧∃r',r'.p=(openP r.p).1∧DStep B w r w' r':=by
 have hb:=h.blk.rule
 have hfr:=h.blk.free
 unfold headV at hb
 cases hdn:r.down with
 |false=>
  rw [hdn] at hb
  have HG:=Lib.hid (show openP r.p=(r.p,2) from by simp [openP,DiskR.p,hdn])
  go_enter Tryz.func25,Tryz.ntmps25
  go_wp2_with fail
  go_ret
  exact ⟨by rw [HG.out];rfl,r,by rw [HG.out],DStep.refl h⟩
 |true=>
  rw [hdn] at hb
  have HG:=Lib.hid (show openP r.p=({r.p with down:=false},0) from by simp [openP,DiskR.p,hdn])
  go_enter Tryz.func25,Tryz.ntmps25
  go_wp2_with fail
  go_ret
  have hblk:Blk (w.setCell ⟨r.d,1,none⟩ (.bool false)) r.d (headV {r with down:=false}) 85:=h.blk.set 1 (.bool false)
  refine ⟨by rw [HG.out];rfl,{r with down:=false},by rw [HG.out];rfl,⟨?_,?_,fun x hx=> .inl (foot_head rfl rfl rfl rfl hx),rfl⟩⟩
  ·exact (Turn.refl _ _).setCell (.inl (.inl rfl)) _
  ·exact h.head _ rfl rfl rfl rfl rfl rfl h.ok.left hblk fun x hx=>heap_setCell_other _ _ _ _ hx
def newR (w:World):DiskR:=⟨w.heap.size+1,w.heap.size,[],false,false,0,none,0,[]⟩
theorem new_any (w:World):
  Calls Tryz.prog 10 #[] w fun e w'=>e= .returned (.pointer (some ⟨w.heap.size+1,0,none⟩))∧DiskAt w' w.heap.size (newR w)∧Below w.heap.size w w'∧w'.heap.size=w.heap.size+2:=by
 have hmm:= @run_makeMap Tryz.prog
 go_enter Tryz.func10,Tryz.ntmps10
 go_wp2_with fail
 go_ret
 have hB2:Blk ((w.alloc (.map #[] 0)).alloc (.cells #[.map (some w.heap.size),.bool false,.bool false,.int .i64 0,.slice none 0 0] 85)) (w.heap.size+1) (headV (newR w)) 85:=Blk.new2' _ _ _ _
 refine ⟨rfl,⟨by show w.heap.size≤w.heap.size+1;omega,Nat.le_refl _,hB2,?_,fun f hf=>by simp [newR] at hf,List.Pairwise.nil,Own.nil _ _ _ _,?_⟩,((Below.refl _ _).alloc (Nat.le_refl _) _).alloc (by simp) _,by simp⟩
 ·exact (GMap.made w Tryz.prog 9 Rp).keep (Below.heap_alloc _ _ _ (by simp [newR]))
 ·exact ⟨List.nodup_nil,fun f hf=>by simp [DiskR.p,newR] at hf,fun f hf=>by simp [DiskR.p,newR] at hf,fun f hf=>by simp [DiskR.p,newR] at hf,by simp [DiskR.p,newR],by simp [DiskR.p,newR]⟩
theorem bytesT8:RowType Tryz.prog 22 5 1 1:=RowType.mk (z:= .int .u8 0) Tryz.underlying22 (by kernel_rfl) rfl (by omega)
theorem findP_of {w:World} {B:Nat} {r:DiskR} (h:DiskAt w B r) {f:FileR} (hf:f∈r.fs):findP r.p f.nm=some f.p:=by
 have:=find_name h.ok.names (show f.p∈r.p.fs from List.mem_map.2 ⟨f,hf,rfl⟩)
 exact this
theorem findP_no {r:DiskR} {nm:Name} (hn:∀f∈r.fs,f.nm≠nm):findP r.p nm=none:=by
 unfold findP
 rw [List.find?_eq_none]
 intro x hx
 obtain ⟨f,hf,rfl⟩:=List.mem_map.1 hx
 exact fun e=>hn f hf (of_decide_eq_true e)
def appG (l:List UInt8) (a2:Option Addr) (c2:Nat) (g:FileR):FileR:={g with a:=a2,c:=c2,b:=g.b++l}
theorem append_step {w w2:World} {B:Nat} {r:DiskR} {f:FileR} (h:DiskAt w B r) (hf:f∈r.fs) {l:List UInt8} {len:Nat} (hlen:l.length=len) (hle:f.b.length+len≤1048576) {a2:Option Addr} {c2:Nat}
  (hm:Mid w2 B 5 a2 (f.b.length+len) c2 (f.b.map bv++l.map bv)) (hg:w.grownBy w2 (rowB f.a f.c)) (hrow:rowB a2 c2=rowB f.a f.c∨∃b,rowB a2 c2=some b∧w.heap.size≤b):
  DStep B w r (w2.setCell ⟨f.blk,0,none⟩ (.slice a2 (f.b.length+len) c2)) {r with fs:=updR r.fs f.nm (appG l a2 c2)}:=by
 have hfa:=h.files f hf
 have hkn:=KeepNot.grownM hfa.row hg
 have hbl2:=hfa.blk.keepNot hkn (by decide)
 have hsame:∀g∈r.fs,g.nm=f.nm→g=f:=fun g hg e=>h.same hg hf e
 have hk:∀x,x≠f.blk→x<w.heap.size→rowB f.a f.c≠some x→(w2.setCell ⟨f.blk,0,none⟩ (.slice a2 (f.b.length+len) c2)).heap[x]? =w.heap[x]? :=fun x h1 h2 h3=>by
  rw [heap_setCell_other _ _ _ _ h1]
  exact hg.block x h2 (Ne.symm h3)
 have hff:∀x,rowB f.a f.c=some x→foot r x:=fun x hx=> .inr (.inr (.inl ⟨f,hf,.inr hx⟩))
 have hnr:∀{b:Nat} {cs:Array Value} {t:TypeId},Blk w b cs t→t≠5→rowB f.a f.c≠some b:=fun hb ht e=>h.ne_row hf e hb ht rfl
 have hnm:rowB f.a f.c≠some r.m:=fun e=>by
  obtain ⟨_,_,cur,hcur⟩:=hfa.row.lt e
  exact h.ne_map hcur rfl
 refine ⟨(Turn.of_grown hg hff).setCell (.inl (.inr (.inr (.inl ⟨f,hf,.inl rfl⟩)))) _,?_,?_,rfl⟩
 ·refine h.upd f.nm (appG l a2 c2) (fun _ _=>⟨rfl,rfl⟩) (hk _ (Ne.symm (h.ne_file hf)) h.blk.lt (hnr h.blk (by decide))) (hk _ (Ne.symm (h.ne_map hfa.blk)) h.map.lt hnm) (fun x hx=> ?_) ?_ ?_ ?_ ?_
  ·obtain ⟨_,h2,cur,hcur⟩:=h.plan.block_lt hx
   exact hk _ (h.ne_plan hx hfa.blk (by decide)) h2 (hnr hcur (by decide))
  ·intro g hg1 hgn
   obtain ⟨hb,hr⟩:=h.apart' hf hg1 (Ne.symm hgn)
   refine ⟨hk _ (Ne.symm hb) (h.files g hg1).blk.lt (hnr (h.files g hg1).blk (by decide)),fun x hx=>hk _ (h.ne_row hg1 hx hfa.blk (by decide)) ((h.files g hg1).row.lt hx).2.1 (fun e=>hr x e hx)⟩
  ·intro g hg1 hgn
   obtain rfl:=hsame g hg1 hgn
   have hl2:(g.b++l).length=g.b.length+len:=by rw [List.length_append,hlen]
   refine ⟨?_,hfa.ge,?_⟩
   ·show Blk _ g.blk #[.slice a2 (g.b++l).length c2,.int .i64 (g.sure:Int)] _
    rw [hl2]
    exact hbl2.set 0 _
   ·show Mid _ B 5 a2 (g.b++l).length c2 ((g.b++l).map bv)
    rw [hl2,List.map_append]
    exact hm.setCell hbl2 (by decide) 0 _
  ·intro g hg1 hgn g2 hg2 hgn2 x hx
   obtain rfl:=hsame g hg1 hgn
   rcases hrow with e|⟨b,e,hb⟩
   ·exact (h.apart' hf hg2 (Ne.symm hgn2)).2 x (by rw [←e];exact hx)
   ·intro e2
    have:=((h.files g2 hg2).row.lt e2).2.1
    have e3:rowB a2 c2=some x:=hx
    rw [e] at e3
    cases e3
    omega
  ·have hp5:DiskR.p {r with fs:=updR r.fs f.nm (appG l a2 c2)}=updP r.p f.nm (fun f=>{f with b:=f.b++l}):=by
    simp only [DiskR.p,updP]
    rw [updR_p _ _ _ (fun f=>{f with b:=f.b++l}) (fun _ _ _=>rfl)]
   show DiskOk (DiskR.p {r with fs:=updR r.fs f.nm (appG l a2 c2)})
   rw [hp5]
   refine h.ok.upd f.nm _ (fun _ _=>rfl) (fun g hg1 _=> ?_) (fun g hg1 hgn=> ?_)
   ·have:=h.ok.sure g hg1
    show g.sure≤(g.b++l).length
    rw [List.length_append];omega
   ·obtain ⟨g0,hg0,rfl⟩:=List.mem_map.1 hg1
    obtain rfl:=hsame g0 hg0 hgn
    show (g0.b++l).length≤maxFileN
    rw [List.length_append,hlen];exact hle
 ·rintro x (hx|hx|⟨g,hg1,hx⟩|hx)
  ·exact .inl (.inl hx)
  ·exact .inl (.inr (.inl hx))
  ·obtain ⟨g0,hg0,⟨e,rfl⟩|⟨e,rfl⟩⟩:=updR_mem hg1
   ·obtain rfl:=hsame g0 hg0 e
    rcases hx with hx|hx
    ·exact .inl (.inr (.inr (.inl ⟨g0,hf,.inl hx⟩)))
    ·have hx':rowB a2 c2=some x:=hx
     rcases hrow with e2|⟨b,e2,hb⟩
     ·rw [e2] at hx';exact .inl (hff x hx')
     ·rw [e2] at hx';cases hx';exact .inr hb
   ·exact .inl (.inr (.inr (.inl ⟨_,hg0,hx⟩)))
  ·exact .inl (.inr (.inr (.inr hx)))
def AppRes (B:Nat) (w:World) (r:DiskR) (nm:Name) (l:List UInt8) (v:Int) (w':World):Prop:=v=(appendP r.p nm l).2∧∃r',r'.p=(appendP r.p nm l).1∧DStep B w r w' r'
set_option maxRecDepth 20000 in
set_option maxHeartbeats 2000000 in
theorem append1_any (w:World) (B:Nat) (r:DiskR) (f:FileR) (h:DiskAt w B r) (hB:B≤w.heap.size) (hdn:r.down=false) (hf:f∈r.fs) (bb bd:Nat) (a:Option Addr) (len cap:Nat) (l:List UInt8)
  (hbb:Blk w bb #[.slice a len cap] 22) (hbd:Blk w bd #[.pointer (some ⟨r.d,0,none⟩)] 26) (hl:BytesAt w a l) (hlen:l.length=len) (hcl:len≤maxLen):
  Calls Tryz.prog 61 #[.pointer (some ⟨f.blk,0,none⟩),.pointer (some ⟨bb,0,none⟩),.pointer (some ⟨bd,0,none⟩)] w fun e w'=>∃v,e= .returned (.int .i64 v)∧AppRes B w r f.nm l v w':=by
 unfold maxLen at hcl
 have HL:=Lib.hid hlen
 have HDN:=Lib.hid hdn
 clear hlen hdn
 have hfa:=h.files f hf
 have hsz:f.b.length≤1048576:=h.ok.size f.p (List.mem_map.2 ⟨f,hf,rfl⟩)
 have hfp:=Lib.hid (findP_of h hf)
 have e1:IntKind.i64.wrap (1048576-(f.b.length:Int))=1048576-(f.b.length:Int):=by rw [IntKind.wrap_i64];omega
 have L1:∀W,Old w.drew W→W.cell? ⟨bb,0,none⟩=some (.slice a len cap):=fun W hW=>by rw [(hW:Below w.heap.size w.drew W).cell hbb.lt];exact hbb.rule 0
 have L2:∀W,Old w.drew W→W.cell? ⟨f.blk,0,none⟩=some (.slice f.a f.b.length f.c):=fun W hW=>by rw [(hW:Below w.heap.size w.drew W).cell hfa.blk.lt];exact hfa.blk.rule 0
 by_cases hbig:1048576-f.b.length<len
 ·have t0:decide (1048576-(f.b.length:Int)<(len:Int))=true:=by simp;omega
  go_enter Tryz.func61,Tryz.ntmps61
  go_wp2_with fail
  refine wp_region_old (0::1::2::3::4::5::6::7::8::[]) (by kernel_rfl) (by kernel_rfl) (fun c a d v w h=>by cases d<;>exact h) ?_
  repeat (first|(refine lex_skip rfl (by rfl) ?_;simp only [Act.put,List.setIfInBounds_toArray,List.set])|(refine lex_quiet (v:= ?_) rfl rfl (by rfl) ?_ ?_;rotate_left;(intro W hW;go_simp);(try with_reducible rfl);simp only [Act.put,List.setIfInBounds_toArray,List.set]))
  refine lex_nil ?_
  go_wp2_with fail
  go_ret
  refine ⟨3,rfl,?_⟩
  have e:appendP r.p f.nm l=(r.p,3):=by
   unfold appendP mayP
   rw [hfp.out]
   have:maxFileN-f.p.b.length<l.length:=by rw [HL.out];exact hbig
   simp [DiskR.p,HDN.out,this]
  unfold AppRes
  rw [e]
  have hk:=DStep.refl h
  exact ⟨rfl,r,rfl,⟨hk.turn.drew,h.drew,hk.foot',rfl⟩⟩
 ·have t0:decide (1048576-(f.b.length:Int)<(len:Int))=false:=by simp;omega
  go_enter Tryz.func61,Tryz.ntmps61
  go_wp2_with fail
  refine wp_region_old (0::1::2::3::4::5::6::7::8::[]) (by kernel_rfl) (by kernel_rfl) (fun c a d v w h=>by cases d<;>exact h) ?_
  repeat (first|(refine lex_skip rfl (by rfl) ?_;simp only [Act.put,List.setIfInBounds_toArray,List.set])|(refine lex_quiet (v:= ?_) rfl rfl (by rfl) ?_ ?_;rotate_left;(intro W hW;go_simp);(try with_reducible rfl);simp only [Act.put,List.setIfInBounds_toArray,List.set]))
  refine lex_nil ?_
  clear L1 L2
  go_wp2_with fail
  have r0:=fun W (hW:KeepNot 5 w.drew.drew W)=>(hfa.blk.drew.drew.keepNot hW (by decide)).rule
  have r1:=fun W (hW:KeepNot 5 w.drew.drew W)=>(hbb.drew.drew.keepNot hW (by decide)).rule
  refine wp_region_treeN 5 (.step 0 (.step 1 (.step 2 (.step 3 (.step 4 (.step 5 (.step 6 (.step 7 (.step 8 (.step 9 .done)))))))))) (by kernel_rfl) (by kernel_rfl) (fun c a d v w h=>by cases d<;>exact h) ?_
  repeat (first|(refine tree_skip rfl (by rfl) ?_;simp only [Act.put,List.setIfInBounds_toArray,List.set])|(refine tree_quiet (v:= ?_) rfl rfl (by rfl) ?_ ?_;rotate_left;(intro W hW;go_simp);(try with_reducible rfl);simp only [Act.put,List.setIfInBounds_toArray,List.set]))
  refine tree_loud rfl rfl (by rfl) (fun K hK=> ?_)
  refine wp_append_mid (.tmp 18) (.tmp 19) 22 rfl bytesT8 rfl hfa.row.drew.drew rfl (RowAt.drew (RowAt.drew hl)) (by rw [List.length_map];exact HL.out) (bv_one _) (by unfold maxLen;omega) (by omega) hB ?_
  intro a2 c2 w2 hm2 hg2 hrow2
  refine hK _ _ (KeepNot.grownM hfa.row.drew.drew hg2) ?_
  clear hK K r0 r1
  have hkn:=KeepNot.grownM hfa.row.drew.drew hg2
  have hbl2:=hfa.blk.drew.drew.keepNot hkn (by decide)
  have hbd2:=hbd.drew.drew.keepNot hkn (by decide)
  have c0:=hbl2.rule
  have c1:=hbl2.free
  repeat (first|(refine tree_skip rfl (by rfl) ?_;simp only [Act.put,List.setIfInBounds_toArray,List.set])|(refine tree_quiet (v:= ?_) rfl rfl (by rfl) ?_ ?_;rotate_left;(intro W hW;go_simp);(try with_reducible rfl);simp only [Act.put,List.setIfInBounds_toArray,List.set]))
  refine tree_store rfl rfl (by rfl) (fun K hK=> ?_)
  go_wp2_with fail
  refine tree_done ?_
  have HS:=Lib.hid (append_step h hf HL.out (by omega) hm2 ⟨hg2.os,hg2.tape,hg2.output,hg2.size,hg2.block⟩ hrow2)
  have hsz3:B≤(w2.setCell ⟨f.blk,0,none⟩ (.slice a2 (f.b.length+len) c2)).heap.size:=Nat.le_trans hB HS.out.turn.size
  have c2':=(hbd2.other ⟨f.blk,0,none⟩ (.slice a2 (f.b.length+len) c2) (Blk.ne hbd2 hbl2 (by decide))).rule
  clear c0 c1
  go_wp2_with fail
  refine (goes_any _ B _ HS.out.at' hsz3 HDN.out).mono ?_
  rintro e w4 ⟨rfl,r',hr',hs,_⟩
  go_wp2_with fail
  go_ret
  refine ⟨_,rfl,?_⟩
  have e:appendP r.p f.nm l=goesP (updP r.p f.nm (fun f=>{f with b:=f.b++l})):=by
   unfold appendP mayP
   rw [hfp.out]
   have:¬maxFileN-f.p.b.length<l.length:=by rw [HL.out];exact hbig
   simp [DiskR.p,HDN.out,this]
  have hp5:DiskR.p {r with fs:=updR r.fs f.nm (appG l a2 c2)}=updP r.p f.nm (fun f=>{f with b:=f.b++l}):=by
   simp only [DiskR.p,updP]
   rw [updR_p _ _ _ (fun f=>{f with b:=f.b++l}) (fun _ _ _=>rfl)]
  unfold AppRes
  rw [e,←hp5]
  exact ⟨rfl,r',hr',HS.out.trans hs⟩
end
section
open Go.RowKit Go.Maps Go.Shelf
theorem DStep.pre {B:Nat} {w0 w w':World} {r r':DiskR} (hb:Below w0.heap.size w0 w) (h:DStep B w r w' r'):DStep B w0 r w' r':=
 ⟨(Turn.of_below hb).trans h.turn (fun _ hk=> .inl hk),h.at',fun x hx=>(h.foot' x hx).imp id fun hx=>Nat.le_trans hb.size hx,h.d⟩
theorem DStep.post {B:Nat} {w w' w'':World} {r r':DiskR} (h:DStep B w r w' r') (hb:Below w'.heap.size w' w''):DStep B w r w'' r':=
 ⟨h.turn.trans (Turn.of_below (F:=foot r) hb) (fun _ hk=> .inl hk),h.at'.old hb,h.foot',h.d⟩
theorem DStep.quiet {B:Nat} {w w':World} {r:DiskR} (h:DiskAt w B r) (hb:Below w.heap.size w w'):DStep B w r w' r:=(DStep.refl h).post hb
theorem app_enter (args:Array Value) (w:World):(callFunc 61 args).run Tryz.prog w= .ok (.enter 61 args) w:=enters_of Tryz.func61 (by kernel_rfl) rfl args w
set_option maxHeartbeats 1000000 in
theorem append_any (w:World) (B:Nat) (r:DiskR) (nm:Name) (h:DiskAt w B r) (hB:B≤w.heap.size) (hs:nm.size≤maxLen) (a:Option Addr) (len cap:Nat) (l:List UInt8) (hl:BytesAt w a l) (hlen:l.length=len) (hcl:len≤maxLen):
  Calls Tryz.prog 16 #[.pointer (some ⟨r.d,0,none⟩),.string nm,.slice a len cap] w fun e w'=>e= .returned (.int .i64 (appendP r.p nm l).2)∧∃r',r'.p=(appendP r.p nm l).1∧DStep B w r w' r':=by
 have HL:=Lib.hid hlen
 clear hlen
 have hmf:∀(fn:Fn) (first cap:Array Value) (w:World),(Instr.makeFunc fn first cap).run Tryz.prog w= .ok (.func fn first cap) w:=fun _ _ _ _=>rfl
 have hb2:Below w.heap.size w ((w.alloc (.cells #[.pointer (some ⟨r.d,0,none⟩)] 26)).alloc (.cells #[.slice a len cap] 22)):=((Below.refl _ _).alloc (Nat.le_refl _) _).alloc (by simp) _
 have h2:=h.old hb2
 go_enter Tryz.func16,Tryz.ntmps16
 go_wp2_with fail
 refine (may_any h2 hs 61 _ app_enter (AppRes B w r nm l) ?_ ?_ ?_).mono ?_
 ·intro hdn
  have e:appendP r.p nm l=(r.p,5):=by simp [appendP,mayP,DiskR.p,hdn]
  unfold AppRes
  rw [e]
  exact ⟨rfl,r,rfl,DStep.quiet h hb2⟩
 ·intro hdn hno
  have e:appendP r.p nm l=(r.p,4):=by unfold appendP mayP;rw [findP_no hno];simp [DiskR.p,hdn]
  unfold AppRes
  rw [e]
  exact ⟨rfl,r,rfl,DStep.quiet h hb2⟩
 ·intro f hf hn hdn
  subst hn
  refine (append1_any _ B r f h2 (Nat.le_trans hB hb2.size) hdn hf _ _ a len cap l (Blk.new2' _ _ _ _) (Blk.new2 _ _ _ _) (hl.below hb2) HL.out hcl).mono ?_
  rintro e w1 ⟨v,rfl,hv,r',hr',hs'⟩
  exact ⟨v,rfl,hv,r',hr',hs'.pre hb2⟩
 ·rintro e w1 ⟨v,rfl,hv,r',hr',hs'⟩
  go_wp2_with fail
  go_ret
  refine ⟨?_,r',hr',hs'⟩
  rw [←hv];rfl
def SyncRes (B:Nat) (w:World) (r:DiskR) (nm:Name) (v:Int) (w':World):Prop:=v=(syncP r.p nm).2∧∃r',r'.p=(syncP r.p nm).1∧DStep B w r w' r'
theorem sure_step {w:World} {B:Nat} {r:DiskR} {f:FileR} (h:DiskAt w B r) (hf:f∈r.fs):DStep B w r (w.setCell ⟨f.blk,1,none⟩ (.int .i64 (f.b.length:Int))) {r with fs:=updR r.fs f.nm fun f=>{f with sure:=f.b.length}}:=by
 have hfa:=h.files f hf
 have hsame:∀g∈r.fs,g.nm=f.nm→g=f:=fun g hg e=>h.same hg hf e
 have hk:∀x,x≠f.blk→(w.setCell ⟨f.blk,1,none⟩ (.int .i64 (f.b.length:Int))).heap[x]? =w.heap[x]? :=fun x h1=>heap_setCell_other _ _ _ _ h1
 refine ⟨(Turn.refl _ _).setCell (.inl (.inr (.inr (.inl ⟨f,hf,.inl rfl⟩)))) _,?_,?_,rfl⟩
 ·refine h.upd f.nm (fun f=>{f with sure:=f.b.length}) (fun _ _=>⟨rfl,rfl⟩) (hk _ (Ne.symm (h.ne_file hf))) (hk _ (Ne.symm (h.ne_map hfa.blk))) (fun x hx=>hk _ (h.ne_plan hx hfa.blk (by decide))) ?_ ?_ ?_ ?_
  ·intro g hg hgn
   exact ⟨hk _ (Ne.symm (h.apart' hf hg (Ne.symm hgn)).1),fun x hx=>hk _ (h.ne_row hg hx hfa.blk (by decide))⟩
  ·intro g hg hgn
   obtain rfl:=hsame g hg hgn
   exact ⟨hfa.blk.set 1 _,hfa.ge,hfa.row.setCell hfa.blk (by decide) 1 _⟩
  ·intro g hg hgn g2 hg2 hgn2 x hx
   obtain rfl:=hsame g hg hgn
   exact (h.apart' hf hg2 (Ne.symm hgn2)).2 x hx
  ·have hp5:DiskR.p {r with fs:=updR r.fs f.nm fun f=>{f with sure:=f.b.length}}=updP r.p f.nm (fun f=>{f with sure:=f.b.length}):=by
    simp only [DiskR.p,updP]
    rw [updR_p _ _ _ (fun f=>{f with sure:=f.b.length}) (fun _ _ _=>rfl)]
   show DiskOk (DiskR.p {r with fs:=updR r.fs f.nm fun f=>{f with sure:=f.b.length}})
   rw [hp5]
   exact h.ok.upd f.nm _ (fun _ _=>rfl) (fun g hg _=>Nat.le_refl _) (fun g hg _=>h.ok.size g hg)
 ·rintro x (hx|hx|⟨g,hg1,hx⟩|hx)
  ·exact .inl (.inl hx)
  ·exact .inl (.inr (.inl hx))
  ·obtain ⟨g0,hg0,⟨e,rfl⟩|⟨e,rfl⟩⟩:=updR_mem hg1
   ·exact .inl (.inr (.inr (.inl ⟨g0,hg0,hx⟩)))
   ·exact .inl (.inr (.inr (.inl ⟨_,hg0,hx⟩)))
  ·exact .inl (.inr (.inr (.inr hx)))
set_option maxHeartbeats 1000000 in
theorem sync1_any (w:World) (B:Nat) (r:DiskR) (f:FileR) (h:DiskAt w B r) (hB:B≤w.heap.size) (hdn:r.down=false) (hf:f∈r.fs) (bd:Nat)
  (hbd:Blk w bd #[.pointer (some ⟨r.d,0,none⟩)] 26):
  Calls Tryz.prog 137 #[.pointer (some ⟨f.blk,0,none⟩),.pointer (some ⟨bd,0,none⟩)] w fun e w'=>∃v,e= .returned (.int .i64 v)∧SyncRes B w r f.nm v w':=by
 have HDN:=Lib.hid hdn
 clear hdn
 have hfp:=Lib.hid (findP_of h hf)
 have c0:=hbd.rule
 go_enter Tryz.func137,Tryz.ntmps137
 go_wp2_with fail
 refine (goes_any _ B _ h hB HDN.out).mono ?_
 rintro e w1 ⟨rfl,r1,hr1,hs1,hz1⟩
 clear c0
 have HE:=Lib.hid (show syncP r.p f.nm=if (goesP r.p).2=0 then (updP (goesP r.p).1 f.nm fun f=>{f with sure:=f.b.length},0) else goesP r.p by
  unfold syncP mayP
  rw [hfp.out]
  simp [DiskR.p,HDN.out])
 by_cases hg:(goesP r.p).2=0
 ·have hfs1:=hz1 hg
  have hf1:f∈r1.fs:=by rw [hfs1];exact hf
  have hfa1:=hs1.at'.files f hf1
  have c1:=hfa1.blk.rule
  have c2:=hfa1.blk.free
  have HG:=Lib.hid hg
  clear hz1
  go_wp2_with fail
  go_ret
  refine ⟨0,rfl,?_⟩
  unfold SyncRes
  rw [HE.out,if_pos HG.out]
  have hst:=sure_step hs1.at' hf1
  refine ⟨rfl,_,?_,hs1.trans hst⟩
  rw [←hr1]
  simp only [DiskR.p,updP]
  rw [updR_p _ _ _ (fun f=>{f with sure:=f.b.length}) (fun _ _ _=>rfl)]
 ·go_wp2_with fail
  go_ret
  refine ⟨_,rfl,?_⟩
  unfold SyncRes
  rw [HE.out,if_neg hg]
  exact ⟨rfl,r1,hr1,hs1⟩
theorem sync_enter (args:Array Value) (w:World):(callFunc 137 args).run Tryz.prog w= .ok (.enter 137 args) w:=enters_of Tryz.func137 (by kernel_rfl) rfl args w
set_option maxHeartbeats 1000000 in
theorem sync_any (w:World) (B:Nat) (r:DiskR) (nm:Name) (h:DiskAt w B r) (hB:B≤w.heap.size) (hs:nm.size≤maxLen):
  Calls Tryz.prog 106 #[.pointer (some ⟨r.d,0,none⟩),.string nm] w fun e w'=>e= .returned (.int .i64 (syncP r.p nm).2)∧∃r',r'.p=(syncP r.p nm).1∧DStep B w r w' r':=by
 have hmf:∀(fn:Fn) (first cap:Array Value) (w:World),(Instr.makeFunc fn first cap).run Tryz.prog w= .ok (.func fn first cap) w:=fun _ _ _ _=>rfl
 have hb2:Below w.heap.size w (w.alloc (.cells #[.pointer (some ⟨r.d,0,none⟩)] 26)):=(Below.refl _ _).alloc (Nat.le_refl _) _
 have h2:=h.old hb2
 go_enter Tryz.func106,Tryz.ntmps106
 go_wp2_with fail
 refine (may_any h2 hs 137 _ sync_enter (SyncRes B w r nm) ?_ ?_ ?_).mono ?_
 ·intro hdn
  have e:syncP r.p nm=(r.p,5):=by simp [syncP,mayP,DiskR.p,hdn]
  unfold SyncRes
  rw [e]
  exact ⟨rfl,r,rfl,DStep.quiet h hb2⟩
 ·intro hdn hno
  have e:syncP r.p nm=(r.p,4):=by unfold syncP mayP;rw [findP_no hno];simp [DiskR.p,hdn]
  unfold SyncRes
  rw [e]
  exact ⟨rfl,r,rfl,DStep.quiet h hb2⟩
 ·intro f hf hn hdn
  subst hn
  refine (sync1_any _ B r f h2 (Nat.le_trans hB hb2.size) hdn hf _ (Blk.new _ _ _)).mono ?_
  rintro e w1 ⟨v,rfl,hv,r',hr',hs'⟩
  exact ⟨v,rfl,hv,r',hr',hs'.pre hb2⟩
 ·rintro e w1 ⟨v,rfl,hv,r',hr',hs'⟩
  go_wp2_with fail
  go_ret
  refine ⟨?_,r',hr',hs'⟩
  rw [←hv];rfl
end
end Go.Proofs.YtioigihakjlopaaGreat

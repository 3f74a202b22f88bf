/- Texts put together and cut to what is used: Disk, VMay. -/
import Derived.Test.YtioigihakjlopaaGreatVK06
import Derived.Test.YtioigihakjlopaaGreatVK07
import Derived.StringKeys
namespace Go.Proofs.YtioigihakjlopaaGreat
set_option linter.unusedVariables false
set_option linter.unusedSimpArgs false
section
open Go.RowKit Go.Maps
theorem keyS:Keyed Tryz.prog 9:=string_keyed Tryz.underlying9
theorem zeroFile (w:World):(zeroValue 110).run Tryz.prog w= .ok (.pointer none) w:=by kernel_rfl
theorem entry_keys (fs:List FileR):(fs.map entryR).map Prod.fst=fs.map fun f=>nameL f.nm:=by rw [List.map_map];rfl
section
variable {w w':World} {B:Nat} {r:DiskR} {nm:Name}
theorem DiskAt.look (h:DiskAt w B r) (hs:nm.size≤maxLen) {f:FileR} (hf:f∈r.fs) (hn:f.nm=nm):(Instr.lookup 83 (.map (some r.m)) (.string nm) false).run Tryz.prog w= .ok (.pointer (some ⟨f.blk,0,none⟩)) w:=by
 obtain ⟨v,ps,hr,hv⟩:=h.map.look keyS Tryz.underlying83 (zeroFile w) rfl (Go.WideMaps.keyOf_string_mk Tryz.underlying9 hs) (d:= .lit (.int .i64 (f.blk:Int))) (List.mem_map.2 ⟨f,hf,by simp [entryR,nameL,hn]⟩)
 rw [hr,Rp_inv hv]
theorem DiskAt.look_no (h:DiskAt w B r) (hs:nm.size≤maxLen) (hn:∀f∈r.fs,f.nm≠nm):(Instr.lookup 83 (.map (some r.m)) (.string nm) false).run Tryz.prog w= .ok (.pointer none) w:=by
 obtain ⟨v,ps,hr,hv⟩:=h.map.look_no keyS Tryz.underlying83 (zeroFile w) rfl (Go.WideMaps.keyOf_string_mk Tryz.underlying9 hs) (by
  rw [entry_keys]
  intro hm
  obtain ⟨f,hf,e⟩:=List.mem_map.1 hm
  exact hn f hf (nameL_inj e))
 rw [hr,Rp_nil hv]
theorem findR (fs:List FileR) (nm:Name):(∃f∈fs,f.nm=nm∧(fs.map (·.p)).find? (fun f=>f.name=nm)=some f.p)∨((∀f∈fs,f.nm≠nm)∧(fs.map (·.p)).find? (fun f=>f.name=nm)=none):=by
 induction fs with
 |nil=>exact .inr ⟨by simp,rfl⟩
 |cons x l ih=>
  by_cases e:x.nm=nm
  ·exact .inl ⟨x,by simp,e,by simp [FileR.p,e]⟩
  ·rcases ih with ⟨f,hf,h1,h2⟩|⟨h1,h2⟩
   ·refine .inl ⟨f,by simp [hf],h1,?_⟩
    rw [List.map_cons,List.find?_cons,decide_eq_false (show ¬x.p.name=nm from e)]
    exact h2
   ·refine .inr ⟨?_,?_⟩
    ·intro f hf
     rcases List.mem_cons.1 hf with rfl|hf'
     ·exact e
     ·exact h1 f hf'
    ·rw [List.map_cons,List.find?_cons,decide_eq_false (show ¬x.p.name=nm from e)]
     exact h2
end
theorem str_nil (s:ByteArray):s.toList.isEmpty=decide (s.size=0):=by
 obtain ⟨⟨l⟩⟩:=s
 rw [show (ByteArray.mk ⟨l⟩).toList=l from ByteArray.toList_mk l,show (ByteArray.mk ⟨l⟩).size=l.length from by simp [ByteArray.size]]
 cases l<;>simp
theorem named_any (s:ByteArray) (w:World):Calls Tryz.prog 60 #[.string s] w fun e w'=>e= .returned (.bool (okName s))∧w'=w:=by
 have hk:okName s=(!s.toList.isEmpty&&decide ((s.size:Int)≤40)):=by
  unfold okName
  rw [str_nil]
  by_cases h0:s.size=0
  ·simp [h0]
  ·simp [h0];omega
 rw [hk]
 clear hk
 by_cases h0:s.toList.isEmpty=true
 ·have h1:s.toList=[]:=List.isEmpty_iff.1 h0
  rw [h0]
  go_enter Tryz.func60,Tryz.ntmps60
  go_wp2_with fail
  all_goals first|(exact absurd h1 (by assumption))|(go_ret;exact ⟨rfl,rfl⟩)
 ·have h1:¬s.toList=[]:=fun e=>h0 (by rw [e];rfl)
  go_enter Tryz.func60,Tryz.ntmps60
  go_wp2_with fail
  all_goals first|(exact absurd (by assumption) h1)|(go_ret;exact ⟨by simp [List.isEmpty_eq_false_iff.2 h1],rfl⟩)
theorem may_any {w:World} {B:Nat} {r:DiskR} {nm:Name} (h:DiskAt w B r) (hs:nm.size≤maxLen) (g:Nat) (lb:Array Value) (eg:∀args w,(callFunc g args).run Tryz.prog w= .ok (.enter g args) w) (R:Int→World→Prop)
  (hdown:r.down=true→R 5 w) (hnone:r.down=false→(∀f∈r.fs,f.nm≠nm)→R 4 w)
  (hfound:∀f∈r.fs,f.nm=nm→r.down=false→Calls Tryz.prog g (#[.pointer (some ⟨f.blk,0,none⟩)]++lb) w fun e w'=>∃v,e= .returned (.int .i64 v)∧R v w'):
  Calls Tryz.prog 58 #[.pointer (some ⟨r.d,0,none⟩),.string nm,.func (.func g) #[] lb] w fun e w'=>∃v,e= .returned (.int .i64 v)∧R v w':=by
 have hb:=h.blk.rule
 unfold headV at hb
 cases hdn:r.down with
 |true=>
  rw [hdn] at hb
  go_enter Tryz.func58,Tryz.ntmps58
  go_wp2_with fail
  go_ret
  exact ⟨5,rfl,hdown hdn⟩
 |false=>
  rw [hdn] at hb
  rcases findR r.fs nm with ⟨f,hf,h1,_⟩|⟨h1,_⟩
  ·have hl:=h.look hs hf h1
   go_enter Tryz.func58,Tryz.ntmps58
   go_wp2_with fail
   refine (hfound f hf h1 hdn).mono ?_
   rintro e w1 ⟨v,rfl,hR⟩
   go_wp2_with fail
   go_ret
   exact ⟨v,rfl,hR⟩
  ·have hl:=h.look_no hs h1
   go_enter Tryz.func58,Tryz.ntmps58
   go_wp2_with fail
   go_ret
   exact ⟨4,rfl,hnone hdn h1⟩
theorem wpList_next_file {w:World} {ops:Array Oper} {rest:List Oper} {o:Oper} {a:Act} {Q:Exit→Act→World→Prop} (hg:o.guard=none) (it:Operand) (hop:o.op=Op.next it false) {M n:Nat} {l:List (Lit×DU)} {ys:List FileR}
  (hit:a.eval it= .pointer (some ⟨n,0,none⟩)) (h:GRan w Tryz.prog 9 Rp M n l (ys.map entryR))
  (hDone:ys=[]→wpList Tryz.prog ops Q rest (a.put o.dst (.tuple #[.bool false])) w)
  (hMore:∀f∈ys,∀w',GRan w' Tryz.prog 9 Rp M n l ((ys.filter fun g=>decide (g.nm≠f.nm)).map entryR)→w'.rangeLeft M n<w.rangeLeft M n→w.grownBy w' (some n)→w'.heap.size=w.heap.size→
   (Instr.entry (.pointer (some ⟨n,0,none⟩))).run Tryz.prog w'= .ok (.tuple #[.string f.nm,.pointer (some ⟨f.blk,0,none⟩)]) w'→wpList Tryz.prog ops Q rest (a.put o.dst (.tuple #[.bool true,.string f.nm,.pointer (some ⟨f.blk,0,none⟩)])) w'):
  wpList Tryz.prog ops Q (o::rest) a w:=by
 refine wpList_plain hg fun K' hK'=> ?_
 unfold Oper.wp
 rcases h.next keyS o.type with ⟨h0,hrun⟩|⟨key,v,kl,d,ps,w',hkey,hm,hv,hrun,hgr,hlt,hgb,hsz,hen⟩
 ·simp [execOp,hop,hit,hrun,Result.andThen]
  exact hK' _ _ (hDone (by simpa using h0))
 ·obtain ⟨f,hf,he⟩:=List.mem_map.1 hm
  obtain ⟨s,rfl,hs,_⟩:=Go.WideMaps.string_of_keyOf Tryz.underlying9 hkey
  have e1:nameL f.nm=kl:=congrArg Prod.fst he
  have e2:(DataW.lit (.int .i64 (f.blk:Int)):DU)=d:=congrArg Prod.snd he
  obtain rfl:s=f.nm:=nameL_inj (by rw [e1,hs];rfl)
  rw [←e2] at hv
  obtain rfl:=Rp_inv hv
  have e3:(ys.map entryR).filter (fun x=> !keyIs kl x)=(ys.filter fun g=>decide (g.nm≠f.nm)).map entryR:=by
   rw [List.filter_map]
   refine congrArg (List.map entryR) ?_
   refine List.filter_congr fun g _=> ?_
   simp only [Function.comp,keyIs,entryR,←e1]
   by_cases e:g.nm=f.nm
   ·rw [e,(sameKey_iff (show WideAt.IsKeyLit (nameL f.nm) by simp [nameL,WideAt.IsKeyLit])).2 rfl];simp
   ·have:Lit.sameKey (nameL g.nm) (nameL f.nm)=false:=by
     rw [Bool.eq_false_iff]
     intro e4
     exact e (nameL_inj (WideAt.sameKey_eq e4))
    rw [this];simp [e]
  rw [e3] at hgr
  simp [execOp,hop,hit,hrun,Result.andThen]
  exact hK' _ _ (hMore f hf w' hgr hlt hgb hsz hen)
theorem pieceT:AggT Tryz.prog 130 2:=⟨⟨_,Tryz.underlying130,rfl⟩,by kernel_rfl⟩
theorem beq_name (a b:ByteArray):(a.toList==b.toList)=decide (a=b):=by
 obtain ⟨⟨l⟩⟩:=a
 obtain ⟨⟨m⟩⟩:=b
 rw [show (ByteArray.mk ⟨l⟩).toList=l from ByteArray.toList_mk l,show (ByteArray.mk ⟨m⟩).toList=m from ByteArray.toList_mk m]
 rw [Bool.eq_iff_iff,beq_iff_eq,decide_eq_true_iff]
 simp
theorem pick_any (bx:Nat) (nm:Name) (x:Name×Int) (w:World) (h:w.cell? ⟨bx,0,none⟩=some (.string nm)):
  Calls Tryz.prog 75 #[.agg #[.string x.1,.int .i64 x.2],.pointer (some ⟨bx,0,none⟩)] w fun e w'=>e= .returned (.bool (decide (x.1=nm)))∧Below w.heap.size w w':=by
 have hlt:=World.block_lt_of_cell? w _ h
 rw [←beq_name]
 go_enter Tryz.func75,Tryz.ntmps75
 have hc:(w.alloc (.cells #[.string x.1,.int .i64 x.2] 130)).cell? ⟨bx,0,none⟩=some (.string nm):=by rw [((Below.refl _ _).alloc (Nat.le_refl _) _:Below w.heap.size w _).cell hlt];exact h
 go_wp2_with fail
 go_ret
 exact ⟨rfl,(Below.refl _ _).alloc (Nat.le_refl _) _⟩
theorem planT:RowType Tryz.prog 47 130 2 24:=RowType.mk (z:= .agg #[.string ByteArray.empty,.int .i64 0]) Tryz.underlying47 (by kernel_rfl) rfl (by omega)
def IdxRel (w:World) (plan:PlanP) (nm:Name) (n:Nat) (f:Nat) (i:Value) (w':World):Prop:=
 ∃k:Nat,k+f=n∧i= .int .i64 (k:Int)∧(∀j (h:j<plan.length),j<k→plan[j].1≠nm)∧Below w.heap.size w w'
set_option maxHeartbeats 1000000 in
theorem index_any (a:Option Addr) (n c:Nat) (plan:PlanP) (bx:Nat) (nm:Name) (w:World) (h:w.cell? ⟨bx,0,none⟩=some (.string nm)) (hp:RowAt w a (plan.flatMap pieceV)) (hn:plan.length=n) (hm:n≤maxLen):
  Calls Tryz.prog 74 #[.slice a n c,.func (.func 75) #[] #[.pointer (some ⟨bx,0,none⟩)]] w fun e w'=>
   ∃k:Int,e= .returned (.int .i64 k)∧Below w.heap.size w w'∧((k= -1∧∀x∈plan,x.1≠nm)∨∃(i:Nat) (hi:i<plan.length),k=(i:Int)∧plan[i].1=nm∧∀j (hj:j<plan.length),j<i→plan[j].1≠nm):=by
 have hlt:=World.block_lt_of_cell? w _ h
 have HN:=Lib.hid hn
 clear hn
 unfold maxLen at hm
 go_enter Tryz.func74,Tryz.ntmps74
 go_wp2_with fail
 go_loopg [8] n (IdxRel w plan nm n)
 case atStart=>exact ⟨0,by omega,rfl,fun _ _ h=>by omega,Below.refl _ _⟩
 case round=>
  obtain ⟨k,hk,rfl,hno,hb⟩:=hrel
  by_cases hlt2:k<n
  ·have hkl:k<plan.length:=by rw [HN.out];exact hlt2
   obtain ⟨b,o,rfl,hbl,hc⟩:=hp.elem (g:=pieceV) (sz:=2) (fun _=>rfl) (by omega) k hkl
   have HT:=Lib.hid (show ∃x,plan[k]=x from ⟨_,rfl⟩)
   obtain ⟨x,hx⟩:=HT.out
   clear HT
   rw [hx] at hc
   have hcw:∀j (hj:j<(pieceV x).length),wr.cell? ⟨b,o+k*2+j,none⟩=some (pieceV x)[j]:=fun j hj=>by rw [hb.cell (show b<w.heap.size from hbl)];exact hc j hj
   have HC:=Lib.hid hcw
   have hbx:wr.cell? ⟨bx,0,none⟩=some (.string nm):=by rw [hb.cell hlt];exact h
   clear hc hcw
   by_cases he:x.1=nm
   ·have HD:=Lib.hid (show decide (x.1=nm)=true by simp [he])
    have HE:=Lib.hid he
    clear he
    go_wp2_with (first|refine wpList_load_as rfl 130 pieceT (.tmp 14) rfl rfl (v:= .agg #[.string x.1,.int .i64 x.2]) rfl HC.out rfl ?_|(go_at_call 75;have hpk:=pick_any bx nm x _ hbx;rw [HD.out] at hpk;refine hpk.mono ?_;rintro e w1 ⟨rfl,hb1⟩))
    go_ret
    exact ⟨k,rfl,below_step hb hb1,.inr ⟨k,hkl,rfl,by rw [hx];exact HE.out,hno⟩⟩
   ·go_wp2_with (first|refine wpList_load_as rfl 130 pieceT (.tmp 14) rfl rfl (v:= .agg #[.string x.1,.int .i64 x.2]) rfl HC.out rfl ?_|(go_at_call 75;refine (pick_any bx nm x _ hbx).mono ?_;rintro e w1 ⟨rfl,hb1⟩))
    go_roundg (gk-1)
    case measure=>omega
    case rel=>
     refine ⟨k+1,by omega,by go_num,fun j hj hjk=> ?_,below_step hb hb1⟩
     by_cases e:j=k
     ·subst e;rw [hx];exact he
     ·exact hno j hj (by omega)
  ·have hkn:k=n:=by omega
   go_wp2_with fail
   go_ret
   refine ⟨-1,rfl,hb,.inl ⟨rfl,fun x hx=> ?_⟩⟩
   obtain ⟨j,hj,rfl⟩:=List.mem_iff_getElem.1 hx
   exact hno j hj (by rw [HN.out] at hj;omega)
end
section
open Go.RowKit
set_option maxRecDepth 20000
def noAct (a:ActionP):Bool:=decide (a.op=0)&&(decide (a.side=0)&&(decide (a.place=0)&&(decide (a.target=0)&&decide (a.ids.length+a.pairs.length=0))))
def may1 (x:DeedP):Bool:=decide (0≤x.game)&&decide (0≤x.table)
def may2 (x:DeedP):Bool:=decide (x.fmt.size≤40)&&(okName x.n0&&(okName x.n1&&(decide (x.d0.length≤60)&&(decide (x.d1.length≤60)&&(decide (x.dr.length≤256)&&noAct x.act)))))
def may3 (x:DeedP):Bool:=decide (x.kind=2)&&(decide (x.table=0)&&(decide (x.fmt.size=0)&&((decide (x.n0.size=0)&&decide (x.n1.size=0))&&decide (x.d0.length+x.d1.length+x.dr.length=0))))
def mays (x:DeedP) (k:Nat):Bool:=if k=0 then may1 x else if k=1 then (if x.kind=1 then may2 x else true) else (if x.kind=1 then true else may3 x)
def mayD (x:DeedP):Bool:=mays x 0&&mays x 1&&mays x 2
theorem vnamed_any (s:ByteArray) (w:World):Calls Tryz.prog 92 #[.string s] w fun e w'=>e= .returned (.bool (okName s))∧w'=w:=by
 have hk:okName s=(!s.toList.isEmpty&&decide ((s.size:Int)≤40)):=by
  unfold okName
  rw [str_nil]
  by_cases h0:s.size=0
  ·simp [h0]
  ·simp [h0];omega
 rw [hk]
 clear hk
 by_cases h0:s.toList.isEmpty=true
 ·have h1:s.toList=[]:=List.isEmpty_iff.1 h0
  rw [h0]
  go_enter Tryz.func92,Tryz.ntmps92
  go_wp2_with fail
  all_goals first|(exact absurd h1 (by assumption))|(go_ret;exact ⟨rfl,rfl⟩)
 ·have h1:¬s.toList=[]:=fun e=>h0 (by rw [e];rfl)
  go_enter Tryz.func92,Tryz.ntmps92
  go_wp2_with fail
  all_goals first|(exact absurd (by assumption) h1)|(go_ret;exact ⟨by simp [List.isEmpty_eq_false_iff.2 h1],rfl⟩)
theorem may1_any (b:Nat) (p:DeedP) (h:DeedH) (w:World) (hb:Blk w b (deedCells p h).toArray 40):Calls Tryz.prog 90 #[.pointer (some ⟨b,0,none⟩)] w fun e w'=>e= .returned (.bool (mays p 0))∧w'=w:=by
 have c1:w.cell? ⟨b,1,none⟩=some (.int .i64 p.game):=hb.cell rfl
 have c2:w.cell? ⟨b,2,none⟩=some (.int .i64 p.table):=hb.cell rfl
 rw [show mays p 0=(decide (0≤p.game)&&decide (0≤p.table)) from rfl]
 clear hb
 generalize p.game=g at*
 generalize p.table=t at*
 by_cases h1:0≤g
 ·go_enter Tryz.func90,Tryz.ntmps90
  go_wp2_with fail
  go_ret
  exact ⟨by simp [h1],rfl⟩
 ·go_enter Tryz.func90,Tryz.ntmps90
  go_wp2_with fail
  go_ret
  exact ⟨by rw [decide_eq_false (show ¬0≤g by omega),Bool.false_and];rfl,rfl⟩
theorem strSize (w:World):(sizeOf 9).run Tryz.prog w= .ok 1 w:=by
 have:(Tryz.prog.info? 9).map (fun i=>i.size)=some 1:=by kernel_rfl
 cases hq:Tryz.prog.info? 9 with
 |none=>simp [hq] at this
 |some i=>simp [hq] at this;simp [sizeOf,typeInfo,hq,this]
theorem eq_two (a b c d:Name) (w:World):(binOp .eql 33 (.agg #[.string a,.string b]) (.agg #[.string c,.string d])).run Tryz.prog w= .ok (.bool (a.toList==c.toList&&b.toList==d.toList)) w:=by
 have p1:∀(x y:Name) W,(part 9 #[.string x,.string y] 0).run Tryz.prog W= .ok (.string x) W:=fun x y W=>by simp [part,isAgg,run_underlying Tryz.underlying9]
 have p2:∀(x y:Name) W,(part 9 #[.string x,.string y] 1).run Tryz.prog W= .ok (.string y) W:=fun x y W=>by simp [part,isAgg,run_underlying Tryz.underlying9]
 have pe:∀(x y:Name) W,(Op.equalIn (9998+1) 9 (.string x) (.string y)).run Tryz.prog W= .ok (x.toList==y.toList) W:=fun x y W=>run_equalIn_string W 9998 9 x y Tryz.underlying9
 rw [run_eql_struct,show (10000:Nat)=9998+2 from rfl,Op.equalIn]
 simp only [Sem.run_bind,run_underlying Tryz.underlying33,Result.andThen_ok,strSize,Std.Legacy.Range.forIn_eq_forIn_range',Std.Legacy.Range.size,Nat.sub_zero,Nat.add_sub_cancel,Nat.div_one]
 rw [show List.range' 0 2 1=[0,1] from rfl]
 simp only [List.forIn_cons,List.forIn_nil,Sem.run_bind,Nat.zero_mul,Nat.one_mul,p1,p2,pe,Result.andThen_ok]
 cases (a.toList==c.toList)
 ·simp
 ·have pe':∀(x y:Name) W,(Op.equalIn 9999 9 (.string x) (.string y)).run Tryz.prog W= .ok (x.toList==y.toList) W:=pe
  cases hq:(b.toList==d.toList)<;>simp [p2,pe',hq]
theorem nil_beq (s:Name):(s.toList==([]:List UInt8))=decide (s.size=0):=by
 rw [←str_nil];cases s.toList<;>rfl
theorem eq_names (a b:Name) (w:World):(binOp .eql 33 (.agg #[.string a,.string b]) (.agg #[.string ⟨#[]⟩,.string ⟨#[]⟩])).run Tryz.prog w= .ok (.bool (decide (a.size=0)&&decide (b.size=0))) w:=by
 rw [eq_two,show (ByteArray.toList ⟨#[]⟩)=[] from ByteArray.toList_mk [],nil_beq,nil_beq]
set_option maxHeartbeats 2000000 in
theorem may3_any (b:Nat) (p:DeedP) (h:DeedH) (w:World) (hb:Blk w b (deedCells p h).toArray 40) (hd:DeedAt w p h):Calls Tryz.prog 93 #[.pointer (some ⟨b,0,none⟩)] w fun e w'=>e= .returned (.bool (mays p 2))∧Below w.heap.size w w':=by
 have a0:w.cell? ⟨b,0,none⟩=some (.int .i8 p.kind):=hb.cell rfl
 have a2:w.cell? ⟨b,2,none⟩=some (.int .i64 p.table):=hb.cell rfl
 have a3:w.cell? ⟨b,3,none⟩=some (.string p.fmt):=hb.cell rfl
 have a4:w.cell? ⟨b,4,none⟩=some (.string p.n0):=hb.cell rfl
 have a5:w.cell? ⟨b,5,none⟩=some (.string p.n1):=hb.cell rfl
 have a6:w.cell? ⟨b,6,none⟩=some (.slice h.d0.a h.d0.n h.d0.c):=hb.cell rfl
 have a7:w.cell? ⟨b,7,none⟩=some (.slice h.d1.a h.d1.n h.d1.c):=hb.cell rfl
 have a8:w.cell? ⟨b,8,none⟩=some (.slice h.dr.a h.dr.n h.dr.c):=hb.cell rfl
 have l0:=hd.d0.2.1
 have l1:=hd.d1.2.1
 have l2:=hd.dr.2.1
 have z0:=hd.d0.2.2.2.2.1
 have z1:=hd.d1.2.2.2.2.1
 have z2:=hd.dr.2.2.2.2.1
 obtain ⟨kind,game,table,fmt,n0,n1,d0,d1,dr,ac⟩:=p
 obtain ⟨⟨q0a,q0,q0c⟩,⟨q1a,q1,q1c⟩,⟨q2a,q2,q2c⟩,ha⟩:=h
 dsimp only at*
 clear hb hd
 by_cases hk:kind=1
 ·subst hk
  rw [show mays ⟨1,game,table,fmt,n0,n1,d0,d1,dr,ac⟩ 2=true from rfl]
  go_enter Tryz.func93,Tryz.ntmps93
  go_wp2_with fail
  go_ret
  exact ⟨rfl,Below.refl _ _⟩
 have k1:(kind==1)=false:=by simpa using hk
 rw [show mays ⟨kind,game,table,fmt,n0,n1,d0,d1,dr,ac⟩ 2=(decide (kind=2)&&(decide (table=0)&&(decide (fmt.size=0)&&((decide (n0.size=0)&&decide (n1.size=0))&&decide (q0+q1+q2=0))))) from by unfold mays may3;simp [hk,l0,l1,l2]]
 clear hk l0 l1 l2
 have eqn:=fun W=>eq_names n0 n1 W
 generalize (decide (n0.size=0)&&decide (n1.size=0))=nn at*
 by_cases g0:kind=2
 rotate_left 1
 ·have k2:(kind==2)=false:=by simpa using g0
  rw [decide_eq_false g0,Bool.false_and]
  clear g0
  go_enter Tryz.func93,Tryz.ntmps93
  go_wp2_with fail
  go_ret
  exact ⟨rfl,Below.refl _ _⟩
 subst g0
 rw [decide_eq_true rfl,Bool.true_and]
 by_cases g1:table=0
 rotate_left 1
 ·have k2:(table==0)=false:=by simpa using g1
  rw [decide_eq_false g1,Bool.false_and]
  clear g1
  go_enter Tryz.func93,Tryz.ntmps93
  go_wp2_with fail
  go_ret
  exact ⟨rfl,Below.refl _ _⟩
 subst g1
 rw [decide_eq_true rfl,Bool.true_and]
 by_cases g2:fmt.size=0
 rotate_left 1
 ·have k2:fmt.toList≠ []:=fun e=>g2 (by have:=str_nil fmt;rw [e] at this;simpa using this.symm)
  rw [decide_eq_false g2,Bool.false_and]
  clear g2
  go_enter Tryz.func93,Tryz.ntmps93
  go_wp2_with fail
  have k3:fmt.toList.isEmpty=false:=by simpa using k2
  go_ret
  exact ⟨by simp [k3],Below.refl _ _⟩
 have k2:fmt.toList=[]:=List.isEmpty_iff.1 (by rw [str_nil];simpa using g2)
 rw [decide_eq_true g2,Bool.true_and]
 clear g2
 cases nn with
 |false=>
  rw [Bool.false_and]
  go_enter Tryz.func93,Tryz.ntmps93
  go_wp2_with fail
  go_ret
  exact ⟨rfl,Below.refl _ _⟩
 |true=>
 rw [Bool.true_and]
 have t11:IntKind.i64.wrap ((q0:Int)+(q1:Int))=(q0:Int)+(q1:Int):=by rw [IntKind.wrap_i64];omega
 have t12:IntKind.i64.wrap ((q0:Int)+(q1:Int)+(q2:Int))=(q0:Int)+(q1:Int)+(q2:Int):=by rw [IntKind.wrap_i64];omega
 have t13:((q0:Int)+(q1:Int)+(q2:Int)==0)=decide (q0+q1+q2=0):=by
  rw [Bool.eq_iff_iff,beq_iff_eq,decide_eq_true_iff];omega
 clear z0 z1 z2
 go_enter Tryz.func93,Tryz.ntmps93
 go_wp2_with fail
 have t14:(decide (q0=0)&&decide (q1=0)&&decide (q2=0))=decide (q0+q1+q2=0):=by
  rw [Bool.eq_iff_iff];simp [and_assoc];try omega
 go_ret
 exact ⟨by rw [←t14];rfl,Below.refl _ _⟩
end
end Go.Proofs.YtioigihakjlopaaGreat

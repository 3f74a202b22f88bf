/- Texts put together and cut to what is used: ImLaws, ImLaws2, VReadP. -/
import Derived.Test.YtioigihakjlopaaGreatVK15
import Derived.Test.YtioigihakjlopaaGreatVK16
namespace Go.Proofs.YtioigihakjlopaaGreat
set_option linter.unusedVariables false
set_option linter.unusedSimpArgs false
section
open Go.RowKit
def natB (l:List UInt8):Nat:=l.foldl (fun n y=>n*256+y.toNat) 0
theorem natB_snoc (l:List UInt8) (y:UInt8):natB (l++ [y])=natB l*256+y.toNat:=by
 unfold natB
 rw [List.foldl_append]
 rfl
theorem snoc_ind {P:List UInt8→Prop} (h0:P []) (h1:∀l y,P l→P (l++ [y])) (l:List UInt8):P l:=by
 have h:∀l:List UInt8,P l.reverse:=fun l=>by
  induction l with
  |nil=>exact h0
  |cons y l ih=>rw [List.reverse_cons];exact h1 _ _ ih
 have:=h l.reverse
 rwa [List.reverse_reverse] at this
theorem natB_lt (l:List UInt8):natB l<256^l.length:=by
 refine snoc_ind (P:=fun l=>natB l<256^l.length) ?_ (fun l y ih=> ?_) l
 ·simp [natB]
 ·rw [natB_snoc,List.length_append,List.length_singleton,Nat.pow_succ]
  have:=y.toNat_lt
  omega
theorem rdB_snoc' (l:List UInt8) (y:UInt8):rdB (l++ [y])=(rdB l<<<8|||y.toBitVec.setWidth 64):=by
 unfold rdB
 rw [List.foldl_append]
 rfl
theorem rdB_nat (l:List UInt8) (h:l.length≤8):(rdB l).toNat=natB l:=by
 revert h
 refine snoc_ind (P:=fun l=>l.length≤8→(rdB l).toNat=natB l) ?_ (fun l y ih h=> ?_) l
 ·intro _;rfl
 ·rw [List.length_append,List.length_singleton] at h
  have h1:=ih (by omega)
  have h2:=natB_lt l
  have h3:256^l.length≤256^7:=Nat.pow_le_pow_right (by omega) (by omega)
  have hy:y.toBitVec.toNat=y.toNat:=rfl
  have hy2:=y.toNat_lt
  rw [rdB_snoc',natB_snoc,BitVec.toNat_or,BitVec.toNat_shiftLeft,BitVec.toNat_setWidth,h1,hy,Nat.mod_eq_of_lt (a:=y.toNat) (by omega)]
  have h4:natB l<<<8%2^64=natB l<<<8:=by
   rw [Nat.shiftLeft_eq]
   exact Nat.mod_eq_of_lt (by omega)
  rw [h4,←Nat.shiftLeft_add_eq_or_of_lt (by omega),Nat.shiftLeft_eq]
def be8B (v:BitVec 64):List UInt8:=(List.range 8).map fun i=>⟨(v>>>(56-8*i)).setWidth 8⟩
theorem be8_eq (n:Int):be8 n=be8B (BitVec.ofInt 64 n):=rfl
theorem byte_natI (v:BitVec 64) (k:Nat):(⟨(v>>>k).setWidth 8⟩:UInt8).toNat=v.toNat/2^k%256:=by
 show ((v>>>k).setWidth 8).toNat=_
 rw [BitVec.toNat_setWidth,BitVec.toNat_ushiftRight,Nat.shiftRight_eq_div_pow]
theorem be8B_list (v:BitVec 64):be8B v=[⟨(v>>>56).setWidth 8⟩,⟨(v>>>48).setWidth 8⟩,⟨(v>>>40).setWidth 8⟩,⟨(v>>>32).setWidth 8⟩,⟨(v>>>24).setWidth 8⟩,⟨(v>>>16).setWidth 8⟩,⟨(v>>>8).setWidth 8⟩,⟨(v>>>0).setWidth 8⟩]:=rfl
theorem rdB_be8B (v:BitVec 64):rdB (be8B v)=v:=by
 apply BitVec.eq_of_toNat_eq
 rw [rdB_nat _ (by simp [be8B]),be8B_list]
 simp only [natB,List.foldl,byte_natI]
 have:=v.isLt
 omega
theorem be8B_rdB (l:List UInt8) (h:l.length=8):be8B (rdB l)=l:=by
 match l,h with
 | [a,b,c,d,e,f,g,i],_=>
  have hn:=rdB_nat [a,b,c,d,e,f,g,i] (by simp)
  simp only [natB,List.foldl] at hn
  have h0:=a.toNat_lt
  have h1:=b.toNat_lt
  have h2:=c.toNat_lt
  have h3:=d.toNat_lt
  have h4:=e.toNat_lt
  have h5:=f.toNat_lt
  have h6:=g.toNat_lt
  have h7:=i.toNat_lt
  rw [be8B_list]
  congr 1
  ·apply UInt8.toNat_inj.1;rw [byte_natI,hn];omega
  congr 1
  ·apply UInt8.toNat_inj.1;rw [byte_natI,hn];omega
  congr 1
  ·apply UInt8.toNat_inj.1;rw [byte_natI,hn];omega
  congr 1
  ·apply UInt8.toNat_inj.1;rw [byte_natI,hn];omega
  congr 1
  ·apply UInt8.toNat_inj.1;rw [byte_natI,hn];omega
  congr 1
  ·apply UInt8.toNat_inj.1;rw [byte_natI,hn];omega
  congr 1
  ·apply UInt8.toNat_inj.1;rw [byte_natI,hn];omega
  congr 1
  ·apply UInt8.toNat_inj.1;rw [byte_natI,hn];omega
theorem ofInt_toInt (n:Int) (h:wf64 n):(BitVec.ofInt 64 n).toInt=n:=by
 rw [BitVec.toInt_ofInt]
 simp only [wf64,Lit.wf,IntKind.min,IntKind.max,IntKind.signed,IntKind.bits] at h
 simp at h
 rw [Int.bmod_def]
 split<;>omega
structure Codec {α:Type} (ok:α→Prop) (enc:α→List UInt8) (rd:List UInt8→Nat→Rd α):Prop where
 back:∀x pre post,ok x→rd (pre++(enc x++post)) pre.length= .ok (x,pre.length+(enc x).length)
 fwd:∀bs a x b,a≤bs.length→rd bs a= .ok (x,b)→ok x∧b=a+(enc x).length∧b≤bs.length∧(bs.drop a).take (enc x).length=enc x
 err:∀bs a p,a≤bs.length→rd bs a= .error p→p≤bs.length
theorem codec_num:Codec wf64 be8 rdNum:=by
 refine ⟨fun x pre post hx=> ?_,fun bs a x b ha h=> ?_,fun bs a p ha h=> ?_⟩
 ·unfold rdNum
  have hl:=be8_length x
  rw [if_neg (by simp only [List.length_append];omega),List.drop_left,List.take_append_of_le_length (by omega),List.take_of_length_le (by omega),hl,be8_eq,rdB_be8B,ofInt_toInt x hx]
 ·unfold rdNum at h
  split at h
  ·cases h
  ·rename_i hle
   cases h
   have hl:((bs.drop a).take 8).length=8:=by rw [List.length_take,List.length_drop];omega
   have e:be8 (rdB ((bs.drop a).take 8)).toInt=(bs.drop a).take 8:=by
    rw [be8_eq,BitVec.ofInt_toInt,be8B_rdB _ hl]
   refine ⟨?_,by rw [be8_length],by omega,by rw [be8_length,e]⟩
   have h1:=BitVec.toInt_lt (x:=rdB ((bs.drop a).take 8))
   have h2:=BitVec.le_toInt (x:=rdB ((bs.drop a).take 8))
   simp only [wf64,Lit.wf,IntKind.min,IntKind.max,IntKind.signed,IntKind.bits]
   simp at h1 h2⊢
   omega
 ·unfold rdNum at h
  split at h
  ·cases h;exact Nat.le_refl _
  ·cases h
theorem wf8_64' {n:Int} (h:wf8 n):wf64 n∧-128≤n∧n≤127:=by
 simp only [wf8,wf64,Lit.wf,IntKind.min,IntKind.max,IntKind.signed,IntKind.bits] at*
 simp at*
 omega
theorem wf8_of {n:Int} (h:¬(n< -128∨127<n)):wf8 n:=by
 simp only [wf8,Lit.wf,IntKind.min,IntKind.max,IntKind.signed,IntKind.bits]
 simp
 omega
theorem codec_small:Codec wf8 be8 rdSmall:=by
 refine ⟨fun x pre post hx=> ?_,fun bs a x b ha h=> ?_,fun bs a p ha h=> ?_⟩
 ·obtain ⟨h1,h2⟩:=wf8_64' hx
  unfold rdSmall
  rw [codec_num.back x pre post h1]
  dsimp only
  rw [if_neg (by omega)]
 ·unfold rdSmall at h
  cases hn:rdNum bs a with
  |error p=>rw [hn] at h;cases h
  |ok v=>
   rw [hn] at h
   dsimp only at h
   split at h
   ·cases h
   ·rename_i ho
    cases h
    have:=codec_num.fwd bs a v.1 v.2 ha hn
    exact ⟨wf8_of ho,this.2⟩
 ·unfold rdSmall at h
  cases hn:rdNum bs a with
  |error p'=>rw [hn] at h;cases h;exact codec_num.err bs a _ ha hn
  |ok v=>
   rw [hn] at h
   dsimp only at h
   split at h
   ·cases h;exact ha
   ·cases h
section
variable {α β:Type} {ok1:α→Prop} {ok2:β→Prop} {enc1:α→List UInt8} {enc2:β→List UInt8} {rd1:List UInt8→Nat→Rd α} {rd2:List UInt8→Nat→Rd β}
theorem Codec.seq (h1:Codec ok1 enc1 rd1) (h2:Codec ok2 enc2 rd2):Codec (fun xy:α×β=>ok1 xy.1∧ok2 xy.2) (fun xy=>enc1 xy.1++enc2 xy.2) (fun bs a=>thn (rd1 bs a) fun x a=>thn (rd2 bs a) fun y a=> .ok ((x,y),a)):=by
 refine ⟨fun x pre post hx=> ?_,fun bs a x b ha h=> ?_,fun bs a p ha h=> ?_⟩
 ·have e1:pre++(enc1 x.1++enc2 x.2++post)=pre++(enc1 x.1++(enc2 x.2++post)):=by rw [List.append_assoc]
  have e2:pre++(enc1 x.1++(enc2 x.2++post))=(pre++enc1 x.1)++(enc2 x.2++post):=by simp
  (try dsimp only)
  rw [e1,h1.back x.1 pre _ hx.1]
  dsimp only [thn]
  rw [e2,←List.length_append,h2.back x.2 (pre++enc1 x.1) post hx.2]
  dsimp only
  simp only [List.length_append,Nat.add_assoc]
 ·(try dsimp only at h)
  cases hr1:rd1 bs a with
  |error p=>rw [hr1] at h;cases h
  |ok v=>
   rw [hr1] at h
   dsimp only [thn] at h
   obtain ⟨o1,e1,l1,t1⟩:=h1.fwd bs a v.1 v.2 ha hr1
   cases hr2:rd2 bs v.2 with
   |error p=>rw [hr2] at h;cases h
   |ok u=>
    rw [hr2] at h
    dsimp only at h
    cases h
    obtain ⟨o2,e2,l2,t2⟩:=h2.fwd bs v.2 u.1 u.2 l1 hr2
    refine ⟨⟨o1,o2⟩,by dsimp only;rw [List.length_append];omega,l2,?_⟩
    (try dsimp only)
    rw [List.length_append,List.take_add,t1,List.drop_drop,←e1,t2]
 ·(try dsimp only at h)
  cases hr1:rd1 bs a with
  |error p'=>rw [hr1] at h;cases h;exact h1.err bs a _ ha hr1
  |ok v=>
   rw [hr1] at h
   dsimp only [thn] at h
   obtain ⟨o1,e1,l1,t1⟩:=h1.fwd bs a v.1 v.2 ha hr1
   cases hr2:rd2 bs v.2 with
   |error p'=>rw [hr2] at h;cases h;exact h2.err bs v.2 _ l1 hr2
   |ok u=>rw [hr2] at h;cases h
theorem Codec.iso (h:Codec ok1 enc1 rd1) (f:α→β) (g:β→α) (hgf:∀x,g (f x)=x) (hfg:∀y,f (g y)=y) (hok:∀x,ok2 (f x)↔ok1 x) (henc:∀x,enc2 (f x)=enc1 x) (hrd:∀bs a,rd2 bs a=thn (rd1 bs a) fun x a=> .ok (f x,a)):Codec ok2 enc2 rd2:=by
 refine ⟨fun y pre post hy=> ?_,fun bs a y b ha h'=> ?_,fun bs a p ha h'=> ?_⟩
 ·rw [←hfg y] at hy⊢
  rw [hrd,henc,h.back (g y) pre post ((hok _).1 hy)]
  rfl
 ·rw [hrd] at h'
  cases hr:rd1 bs a with
  |error p=>rw [hr] at h';cases h'
  |ok v=>
   rw [hr] at h'
   cases h'
   obtain ⟨o1,e1,l1,t1⟩:=h.fwd bs a v.1 v.2 ha hr
   exact ⟨(hok _).2 o1,by rw [henc];exact e1,l1,by rw [henc];exact t1⟩
 ·rw [hrd] at h'
  cases hr:rd1 bs a with
  |error p'=>rw [hr] at h';cases h';exact h.err bs a _ ha hr
  |ok v=>rw [hr] at h';cases h'
theorem codec_many (h:Codec ok1 enc1 rd1):∀(l:List α) (pre post:List UInt8),(∀x∈l,ok1 x)→rdMany (rd1 (pre++(l.flatMap enc1++post))) l.length pre.length= .ok (l,pre.length+(l.flatMap enc1).length)
 | [],pre,post,_=>by simp [rdMany]
 |x::l,pre,post,hx=>by
  have e1:pre++((x::l).flatMap enc1++post)=pre++(enc1 x++(l.flatMap enc1++post)):=by simp
  have e2:pre++(enc1 x++(l.flatMap enc1++post))=(pre++enc1 x)++(l.flatMap enc1++post):=by simp
  rw [List.length_cons,rdMany,e1,h.back x pre _ (hx x (by simp))]
  dsimp only
  rw [e2,←List.length_append,codec_many h l (pre++enc1 x) post (fun y hy=>hx y (by simp [hy]))]
  dsimp only
  simp [Nat.add_assoc]
theorem codec_many_fwd (h:Codec ok1 enc1 rd1) (bs:List UInt8):∀(n a:Nat) (l:List α) (b:Nat),a≤bs.length→rdMany (rd1 bs) n a= .ok (l,b)→l.length=n∧(∀x∈l,ok1 x)∧b=a+(l.flatMap enc1).length∧b≤bs.length∧(bs.drop a).take (l.flatMap enc1).length=l.flatMap enc1
 |0,a,l,b,ha,hr=>by
  simp only [rdMany] at hr
  cases hr
  exact ⟨rfl,by simp,by simp,ha,by simp⟩
 |n+1,a,l,b,ha,hr=>by
  simp only [rdMany] at hr
  cases hr1:rd1 bs a with
  |error p=>rw [hr1] at hr;cases hr
  |ok v=>
   rw [hr1] at hr
   dsimp only at hr
   obtain ⟨o1,e1,l1,t1⟩:=h.fwd bs a v.1 v.2 ha hr1
   cases hr2:rdMany (rd1 bs) n v.2 with
   |error p=>rw [hr2] at hr;cases hr
   |ok u=>
    rw [hr2] at hr
    dsimp only at hr
    cases hr
    obtain ⟨n2,o2,e2,l2,t2⟩:=codec_many_fwd h bs n v.2 u.1 u.2 l1 hr2
    refine ⟨by simp [n2],?_,by rw [List.flatMap_cons,List.length_append];omega,l2,?_⟩
    ·intro x hx
     rcases List.mem_cons.1 hx with rfl|hx
     ·exact o1
     ·exact o2 x hx
    ·rw [List.flatMap_cons,List.length_append,List.take_add,t1,List.drop_drop,←e1,t2]
theorem codec_many_err (h:Codec ok1 enc1 rd1) (bs:List UInt8):∀(n a p:Nat),a≤bs.length→rdMany (rd1 bs) n a= .error p→p≤bs.length
 |0,a,p,ha,hr=>by simp only [rdMany] at hr;cases hr
 |n+1,a,p,ha,hr=>by
  simp only [rdMany] at hr
  cases hr1:rd1 bs a with
  |error p'=>rw [hr1] at hr;cases hr;exact h.err bs a _ ha hr1
  |ok v=>
   rw [hr1] at hr
   dsimp only at hr
   obtain ⟨o1,e1,l1,t1⟩:=h.fwd bs a v.1 v.2 ha hr1
   cases hr2:rdMany (rd1 bs) n v.2 with
   |error p'=>rw [hr2] at hr;cases hr;exact codec_many_err h bs n v.2 _ l1 hr2
   |ok u=>rw [hr2] at hr;cases hr
theorem flat_len {each:Nat} (he:∀x,(enc1 x).length=each):∀l:List α,(l.flatMap enc1).length=l.length*each
 | []=>by simp
 |x::l=>by rw [List.flatMap_cons,List.length_append,he,flat_len he l,List.length_cons,Nat.add_mul,Nat.one_mul,Nat.add_comm]
theorem codec_list (h:Codec ok1 enc1 rd1) (each:Nat) (hp:0<each) (he:∀x,(enc1 x).length=each):
  Codec (fun l:List α=>(∀x∈l,ok1 x)∧wf64 (l.length:Int)) (fun l=>be8 (l.length:Int)++l.flatMap enc1) (fun bs a=>rdList bs each (rd1 bs) a):=by
 refine ⟨fun l pre post hl=> ?_,fun bs a l b ha hr=> ?_,fun bs a p ha hr=> ?_⟩
 ·have e1:pre++(be8 (l.length:Int)++l.flatMap enc1++post)=pre++(be8 (l.length:Int)++(l.flatMap enc1++post)):=by rw [List.append_assoc]
  have e2:pre++(be8 (l.length:Int)++(l.flatMap enc1++post))=(pre++be8 (l.length:Int))++(l.flatMap enc1++post):=by simp
  (try dsimp only)
  unfold rdList
  rw [e1,codec_num.back _ pre _ hl.2]
  dsimp only
  have hfl:=flat_len he l
  have hge:(l.length:Int)≤(((pre++(be8 (l.length:Int)++(l.flatMap enc1++post))).length:Int)-((pre.length+(be8 (l.length:Int)).length:Nat):Int)).tdiv (each:Int):=by
   rw [Int.tdiv_eq_ediv_of_nonneg (by simp only [List.length_append];omega)]
   refine (Int.le_ediv_iff_mul_le (by omega)).2 ?_
   simp only [List.length_append,hfl]
   push_cast
   omega
  rw [if_neg (by omega),e2,←List.length_append,Int.toNat_natCast,codec_many h l (pre++be8 (l.length:Int)) post hl.1]
  simp [Nat.add_assoc]
 ·(try dsimp only at hr)
  unfold rdList at hr
  cases hn:rdNum bs a with
  |error p=>rw [hn] at hr;cases hr
  |ok v=>
   rw [hn] at hr
   dsimp only at hr
   split at hr
   ·cases hr
   ·rename_i ho
    obtain ⟨o1,e1,l1,t1⟩:=codec_num.fwd bs a v.1 v.2 ha hn
    obtain ⟨n2,o2,e2,l2,t2⟩:=codec_many_fwd h bs v.1.toNat v.2 l b l1 hr
    have hv:v.1=(l.length:Int):=by omega
    rw [hv] at o1 e1 t1
    refine ⟨⟨o2,o1⟩,by rw [List.length_append];omega,l2,?_⟩
    (try dsimp only)
    rw [List.length_append,List.take_add,t1,List.drop_drop,←e1,t2]
 ·(try dsimp only at hr)
  unfold rdList at hr
  cases hn:rdNum bs a with
  |error p'=>rw [hn] at hr;cases hr;exact codec_num.err bs a _ ha hn
  |ok v=>
   rw [hn] at hr
   dsimp only at hr
   obtain ⟨o1,e1,l1,t1⟩:=codec_num.fwd bs a v.1 v.2 ha hn
   split at hr
   ·cases hr;exact ha
   ·exact codec_many_err h bs _ v.2 p l1 hr
end
theorem thn_assoc {α β γ:Type} (x:Rd α) (f:α→Nat→Rd β) (g:β→Nat→Rd γ):thn (thn x f) g=thn x fun v a=>thn (f v a) g:=by cases x<;>rfl
theorem thn_ok' {α β:Type} (v:α) (a:Nat) (f:α→Nat→Rd β):thn (.ok (v,a)) f=f v a:=rfl
def okL (l:List Int):Prop:=(∀x∈l,wf64 x)∧wf64 (l.length:Int)
theorem codec_ints:Codec okL encL rdInts:=codec_list codec_num 8 (by omega) be8_length
def okR (u:PairL):Prop:=wf64 u.at_∧wf64 u.by_
theorem codec_pair:Codec okR pairB rdPair:=
 (codec_num.seq codec_num).iso (fun x=>(⟨x.1,x.2⟩:PairL)) (fun u=>(u.at_,u.by_)) (fun _=>rfl) (fun _=>rfl) (fun _=>Iff.rfl) (fun _=>by simp [pairB]) (fun bs a=>by simp only [rdPair,thn_assoc,thn_ok'])
theorem pairB_len (u:PairL):(pairB u).length=16:=by simp [pairB,be8_length]
def okP (l:List PairL):Prop:=(∀x∈l,okR x)∧wf64 (l.length:Int)
theorem codec_pairs:Codec okP encP rdPairs:=codec_list codec_pair 16 (by omega) pairB_len
def okAction (p:ActionP):Prop:=wf8 p.op∧wf64 p.side∧wf64 p.place∧wf64 p.target∧okL p.ids∧okP p.pairs
theorem codec_action:Codec okAction actionI rdAction:=
 (codec_small.seq (codec_num.seq (codec_num.seq (codec_num.seq (codec_ints.seq codec_pairs))))).iso
  (fun x=>(⟨x.1,x.2.1,x.2.2.1,x.2.2.2.1,x.2.2.2.2.1,x.2.2.2.2.2⟩:ActionP)) (fun u=>(u.op,u.side,u.place,u.target,u.ids,u.pairs)) (fun _=>rfl) (fun _=>rfl) (fun _=>Iff.rfl) (fun _=>by simp [actionI]) (fun bs a=>by simp only [rdAction,thn_assoc,thn_ok'])
section
variable {α:Type} {ok:α→Prop} {enc:α→List UInt8} {rd:List UInt8→Nat→Rd α}
theorem Codec.whole_more (h:Codec ok enc rd) {x:α} (hx:ok x) (more:List UInt8):rdWhole rd (enc x++more)=if more=[] then .ok x else .error (enc x).length:=by
 unfold rdWhole
 have:=h.back x [] more hx
 simp only [List.nil_append,List.length_nil,Nat.zero_add] at this
 rw [this]
 dsimp only
 rw [List.length_append]
 cases more with
 |nil=>simp
 |cons y l=>simp
theorem Codec.whole_back (h:Codec ok enc rd) {x:α} (hx:ok x):rdWhole rd (enc x)= .ok x:=by
 have:=h.whole_more hx []
 rwa [List.append_nil,if_pos rfl] at this
theorem Codec.whole_fwd (h:Codec ok enc rd) {x:α} {bs:List UInt8} (hr:rdWhole rd bs= .ok x):ok x∧enc x=bs:=by
 unfold rdWhole at hr
 cases hr1:rd bs 0 with
 |error p=>rw [hr1] at hr;cases hr
 |ok v=>
  rw [hr1] at hr
  dsimp only at hr
  split at hr
  ·cases hr
  ·rename_i hl
   cases hr
   obtain ⟨o,e,l,t⟩:=h.fwd bs 0 v.1 v.2 (Nat.zero_le _) hr1
   refine ⟨o,?_⟩
   rw [List.drop_zero] at t
   rw [←t,List.take_of_length_le (by omega)]
end
theorem wf64_small {n:Nat} (h:n≤1000000000000000):wf64 (n:Int):=by
 simp only [wf64,Lit.wf,IntKind.min,IntKind.max,IntKind.signed,IntKind.bits]
 simp
 omega
theorem Ints.okL {w:World} {s:Sl} {l:List Int} (h:Ints w s l):okL l:=⟨h.2.2.2.2.2,wf64_small (by have h1:=h.2.1;have h2:=h.2.2.2.2.1;omega)⟩
theorem Pairs.okP {w:World} {s:Sl} {l:List PairL} (h:Pairs w s l):okP l:=⟨h.2.2.2.2.2,wf64_small (by have h1:=h.2.1;have h2:=h.2.2.2.2.1;omega)⟩
theorem ActionAt.ok {w:World} {p:ActionP} {h:ActionH} (a:ActionAt w p h):okAction p:=⟨a.op,a.side,a.place,a.target,a.ids.okL,a.pairs.okP⟩
theorem strOf_L (s:ByteArray):strOf (strL s)=s:=by
 obtain ⟨⟨l⟩⟩:=s
 rfl
structure CCod {α:Type} (ok:α→Prop) (enc:α→List UInt8) (rd:CS→α×CS):Prop where
 back:∀x r bad,ok x→rd ⟨enc x++r,bad⟩=(x,⟨r,bad⟩)
 fwd:∀s,(rd s).2.bad=false→s.bad=false∧ok (rd s).1∧s.b=enc (rd s).1++(rd s).2.b
theorem takeC_ok {n:Int} {s:CS} (h:¬(n<0∨(s.b.length:Int)<n)):takeC n s=(s.b.take n.toNat,⟨s.b.drop n.toNat,s.bad⟩):=if_neg h
theorem takeC_fwd {n:Int} {s:CS} (h:(takeC n s).2.bad=false):s.bad=false∧0≤n∧((takeC n s).1.length:Int)=n∧s.b=(takeC n s).1++(takeC n s).2.b:=by
 by_cases hb:n<0∨(s.b.length:Int)<n
 ·unfold takeC at h
  rw [if_pos hb] at h
  cases h
 ·rw [takeC_ok hb] at h⊢
  refine ⟨h,by omega,?_,(List.take_append_drop _ _).symm⟩
  dsimp only
  rw [List.length_take]
  omega
theorem ccod_num:CCod wf64 be8 numC:=by
 refine ⟨fun x r bad hx=> ?_,fun s h=> ?_⟩
 ·have hl:=be8_length x
  unfold numC
  rw [takeC_ok (by simp only [List.length_append];omega)]
  dsimp only
  rw [show (8:Int).toNat=8 from rfl,List.take_append_of_le_length (by omega),List.take_of_length_le (by omega),be8_eq,rdB_be8B,ofInt_toInt x hx,List.drop_append_of_le_length (by rw [be8B];simp),List.drop_of_length_le (by rw [be8B];simp)]
  rfl
 ·have h1:(takeC 8 s).2.bad=false:=h
  obtain ⟨h2,h3,h4,h5⟩:=takeC_fwd h1
  refine ⟨h2,numC_wf s,?_⟩
  have hl:(takeC 8 s).1.length=8:=by omega
  have e:be8 (numC s).1=(takeC 8 s).1:=by
   show be8 (rdB (takeC 8 s).1).toInt=_
   rw [be8_eq,BitVec.ofInt_toInt,be8B_rdB _ hl]
  rw [e]
  exact h5
theorem wf64_len {n:Nat} (h:n≤140737488351232):wf64 (n:Int):=wf64_small (by omega)
def encT (l:List UInt8):List UInt8:=be8 (l.length:Int)++l
theorem ccod_text:CCod (fun l=>wf64 ((l.length:Nat):Int)) encT textC:=by
 refine ⟨fun l r bad hl=> ?_,fun s h=> ?_⟩
 ·unfold textC encT
  rw [List.append_assoc,ccod_num.back _ _ _ hl]
  dsimp only
  rw [takeC_ok (by simp only [List.length_append];omega)]
  dsimp only
  rw [Int.toNat_natCast,List.take_left,List.drop_left]
 ·have h1:(takeC (numC s).1 (numC s).2).2.bad=false:=h
  obtain ⟨h2,h3,h4,h5⟩:=takeC_fwd h1
  obtain ⟨h6,h7,h8⟩:=ccod_num.fwd s h2
  refine ⟨h6,?_,?_⟩
  ·show wf64 (((takeC (numC s).1 (numC s).2).1.length:Nat):Int)
   rw [h4];exact h7
  ·show s.b=encT (takeC (numC s).1 (numC s).2).1++_
   unfold encT
   rw [h4,List.append_assoc,h8]
   congr 1
theorem nums_back:∀(l:List Int) (r:List UInt8) (bad:Bool),(∀x∈l,wf64 x)→numsC l.length ⟨l.flatMap be8++r,bad⟩=(l,⟨r,bad⟩)
 | [],r,bad,_=>rfl
 |x::l,r,bad,h=>by
  rw [List.length_cons,numsC,List.flatMap_cons,List.append_assoc,ccod_num.back x _ bad (h x (by simp))]
  dsimp only
  rw [nums_back l r bad fun y hy=>h y (by simp [hy])]
theorem nums_fwd:∀(k:Nat) (s:CS),(numsC k s).2.bad=false→s.bad=false∧(numsC k s).1.length=k∧(∀x∈(numsC k s).1,wf64 x)∧s.b=(numsC k s).1.flatMap be8++(numsC k s).2.b
 |0,s,h=>⟨h,rfl,by simp [numsC],by simp [numsC]⟩
 |k+1,s,h=>by
  obtain ⟨h1,h2,h3,h4⟩:=nums_fwd k (numC s).2 h
  obtain ⟨h5,h6,h7⟩:=ccod_num.fwd s h1
  refine ⟨h5,by simp [numsC,h2],?_,?_⟩
  ·intro x hx
   rcases List.mem_cons.1 hx with rfl|hx
   ·exact h6
   ·exact h3 x hx
  ·rw [h7,h4]
   simp [numsC]
theorem ccod_list:CCod okL encL listC:=by
 refine ⟨fun l r bad hl=> ?_,fun s h=> ?_⟩
 ·unfold listC encL
  rw [List.append_assoc,ccod_num.back _ _ _ hl.2]
  dsimp only
  have hf:=flat_len be8_length l
  rw [if_neg (by simp only [List.length_append,hf];omega),Int.toNat_natCast,nums_back l r bad hl.1]
 ·unfold listC at h⊢
  split at h
  ·cases h
  ·rename_i hb
   rw [if_neg hb]
   obtain ⟨h1,h2,h3,h4⟩:=nums_fwd _ _ h
   obtain ⟨h5,h6,h7⟩:=ccod_num.fwd s h1
   have e:(((numsC (numC s).1.toNat (numC s).2).1.length:Nat):Int)=(numC s).1:=by rw [h2];omega
   refine ⟨h5,⟨h3,by rw [e];exact h6⟩,?_⟩
   unfold encL
   rw [e,List.append_assoc,←h4]
   exact h7
def sqC {α β:Type} (r1:CS→α×CS) (r2:CS→β×CS) (s:CS):(α×β)×CS:=(((r1 s).1,(r2 (r1 s).2).1),(r2 (r1 s).2).2)
section
variable {α β:Type} {ok1:α→Prop} {ok2:β→Prop} {enc1:α→List UInt8} {enc2:β→List UInt8} {rd1:CS→α×CS} {rd2:CS→β×CS}
theorem CCod.seq (h1:CCod ok1 enc1 rd1) (h2:CCod ok2 enc2 rd2):CCod (fun x:α×β=>ok1 x.1∧ok2 x.2) (fun x=>enc1 x.1++enc2 x.2) (sqC rd1 rd2):=by
 refine ⟨fun x r bad hx=> ?_,fun s h=> ?_⟩
 ·unfold sqC
  rw [List.append_assoc,h1.back _ _ _ hx.1]
  dsimp only
  rw [h2.back _ _ _ hx.2]
 ·obtain ⟨a1,a2,a3⟩:=h2.fwd _ h
  obtain ⟨b1,b2,b3⟩:=h1.fwd _ a1
  exact ⟨b1,⟨b2,a2⟩,by rw [b3,a3];simp [sqC]⟩
end
def emN:Name:=ByteArray.empty
def zeroD:DeedP:=⟨0,0,0,emN,emN,emN,[],[],[],zeroA⟩
def kindD (y:UInt8):Int:=IntKind.i8.wrap (U8 y)
abbrev BegT:=Int×Int×List UInt8×List UInt8×List UInt8×List Int×List Int×List Int
def beginT (s:CS):BegT×CS:=sqC numC (sqC numC (sqC textC (sqC textC (sqC textC (sqC listC (sqC listC listC)))))) s
def mkBegin (x:BegT):DeedP:=⟨1,x.1,x.2.1,strOf x.2.2.1,strOf x.2.2.2.1,strOf x.2.2.2.2.1,x.2.2.2.2.2.1,x.2.2.2.2.2.2.1,x.2.2.2.2.2.2.2,zeroA⟩
def mk2 (x:BegT×CS):DeedP×CS:=(mkBegin x.1,x.2)
theorem mk2_bad (x:BegT×CS):(mk2 x).2=x.2:=rfl
abbrev beginC (s:CS):DeedP×CS:=mk2 (beginT s)
def actC (s:CS):DeedP×CS:=(⟨2,(numC s).1,0,emN,emN,emN,[],[],[],(readA (numC s).2.b).1⟩,⟨[],(numC s).2.bad||decide ((readA (numC s).2.b).2.2≠0)⟩)
def rawD (k:Int) (s:CS):DeedP×CS:=if k=1 then beginC s else if k=2 then actC s else (⟨k,(numC s).1,0,emN,emN,emN,[],[],[],zeroA⟩,(numC s).2)
def finD (x:DeedP×CS):DeedP×Int:=if x.2.bad=true∨0<x.2.b.length∨mayD x.1=false then (zeroD,2) else (x.1,0)
def readD:List UInt8→DeedP×Int
 | []=>(zeroD,2)
 |y::r=>finD (rawD (kindD y) ⟨r,false⟩)
structure OkD (p:DeedP):Prop where
 kind:wf8 p.kind
 game:wf64 p.game
 table:wf64 p.table
 fmt:strZ p.fmt
 n0:strZ p.n0
 n1:strZ p.n1
 d0:okL p.d0
 d1:okL p.d1
 dr:okL p.dr
 act:okAction p.act
theorem DeedAt.okD {w:World} {p:DeedP} {h:DeedH} (a:DeedAt w p h):OkD p:=⟨a.kind,a.game,a.table,a.fmt,a.n0,a.n1,a.d0.okL,a.d1.okL,a.dr.okL,a.act.ok⟩
theorem size0 {s:Name} (h:s.size=0):s=emN:=by
 obtain ⟨⟨l⟩⟩:=s
 have:l=[]:=List.eq_nil_of_length_eq_zero h
 subst this
 rfl
theorem mayD_begin {p:DeedP} (h:mayD p=true) (hk:p.kind=1):p.act=zeroA:=by
 unfold mayD mays at h
 simp [hk] at h
 have h2:=h.2
 unfold may2 noAct at h2
 simp only [Bool.and_eq_true,decide_eq_true_iff] at h2
 obtain ⟨-,-,-,-,-,-,a,b,c,d,e⟩:=h2
 obtain ⟨k,g,t,f,n0,n1,d0,d1,dr,⟨o,s,pl,ta,ids,prs⟩⟩:=p
 dsimp only at a b c d e⊢
 have e1:ids=[]:=List.eq_nil_of_length_eq_zero (by omega)
 have e2:prs=[]:=List.eq_nil_of_length_eq_zero (by omega)
 subst a b c d e1 e2
 rfl
theorem mayD_act {p:DeedP} (h:mayD p=true) (hk:p.kind=2):p=⟨2,p.game,0,emN,emN,emN,[],[],[],p.act⟩:=by
 unfold mayD mays at h
 simp [hk] at h
 have h2:=h.2
 unfold may3 at h2
 simp only [Bool.and_eq_true,decide_eq_true_iff] at h2
 obtain ⟨-,a,b,⟨c,d⟩,e⟩:=h2
 obtain ⟨k,g,t,f,n0,n1,d0,d1,dr,act⟩:=p
 dsimp only at a b c d e hk⊢
 have e1:d0=[]:=List.eq_nil_of_length_eq_zero (by omega)
 have e2:d1=[]:=List.eq_nil_of_length_eq_zero (by omega)
 have e3:dr=[]:=List.eq_nil_of_length_eq_zero (by omega)
 rw [size0 b,size0 c,size0 d,a,hk,e1,e2,e3]
theorem ccod_begin:CCod (fun x:BegT=>wf64 x.1∧wf64 x.2.1∧wf64 ((x.2.2.1.length:Nat):Int)∧wf64 ((x.2.2.2.1.length:Nat):Int)∧wf64 ((x.2.2.2.2.1.length:Nat):Int)∧okL x.2.2.2.2.2.1∧okL x.2.2.2.2.2.2.1∧okL x.2.2.2.2.2.2.2)
  (fun x=>be8 x.1++(be8 x.2.1++(encT x.2.2.1++(encT x.2.2.2.1++(encT x.2.2.2.2.1++(encL x.2.2.2.2.2.1++(encL x.2.2.2.2.2.2.1++encL x.2.2.2.2.2.2.2)))))))
  beginT:=
 ccod_num.seq (ccod_num.seq (ccod_text.seq (ccod_text.seq (ccod_text.seq (ccod_list.seq (ccod_list.seq ccod_list))))))
theorem begin_back (p:DeedP) (h:OkD p) (hk:p.kind=1) (ha:p.act=zeroA):beginC ⟨be8 p.game++(be8 p.table++(textB p.fmt++(textB p.n0++(textB p.n1++(encL p.d0++(encL p.d1++encL p.dr)))))),false⟩=(p,⟨[],false⟩):=by
 have hb:=ccod_begin.back (p.game,p.table,strL p.fmt,strL p.n0,strL p.n1,p.d0,p.d1,p.dr) [] false ⟨h.game,h.table,wf64_len h.fmt,wf64_len h.n0,wf64_len h.n1,h.d0,h.d1,h.dr⟩
 rw [List.append_nil] at hb
 have e:∀s:Name,textB s=encT (strL s):=fun s=>rfl
 rw [e,e,e]
 unfold beginC
 rw [hb]
 unfold mk2 mkBegin
 dsimp only
 rw [strOf_L,strOf_L,strOf_L,←ha,←hk]
theorem begin_key (x:BegT×CS) (l:List UInt8) (h:l=(be8 x.1.1++(be8 x.1.2.1++(encT x.1.2.2.1++(encT x.1.2.2.2.1++(encT x.1.2.2.2.2.1++(encL x.1.2.2.2.2.2.1++(encL x.1.2.2.2.2.2.2.1++encL x.1.2.2.2.2.2.2.2)))))))++x.2.b):
  l=be8 (mk2 x).1.game++(be8 (mk2 x).1.table++(textB (mk2 x).1.fmt++(textB (mk2 x).1.n0++(textB (mk2 x).1.n1++(encL (mk2 x).1.d0++(encL (mk2 x).1.d1++encL (mk2 x).1.dr))))))++(mk2 x).2.b:=by
 have e:∀l:List UInt8,textB (strOf l)=encT l:=fun l=>by unfold textB encT;rw [strOf_size];rfl
 obtain ⟨⟨g,t,f,a,b,d0,d1,dr⟩,s'⟩:=x
 unfold mk2 mkBegin
 dsimp only at h⊢
 rw [e,e,e]
 exact h
theorem begin_fwd (s:CS) (h:(beginC s).2.bad=false):s.b=be8 (beginC s).1.game++(be8 (beginC s).1.table++(textB (beginC s).1.fmt++(textB (beginC s).1.n0++(textB (beginC s).1.n1++(encL (beginC s).1.d0++(encL (beginC s).1.d1++encL (beginC s).1.dr))))))++(beginC s).2.b:=
 begin_key (beginT s) s.b (ccod_begin.fwd s (by rw [mk2_bad] at h;exact h)).2.2
theorem read_back (p:DeedP) (h:OkD p) (hm:mayD p=true):readD (bytesD p)=(p,0):=by
 have fin:∀r,rawD p.kind r=(p,⟨[],false⟩)→finD (rawD p.kind r)=(p,0):=fun r e=>by
  rw [e]
  unfold finD
  rw [if_neg (by simp [hm])]
 rcases mayD_kind hm with hk|hk
 ·have e:bytesD p=1::(be8 p.game++(be8 p.table++(textB p.fmt++(textB p.n0++(textB p.n1++(encL p.d0++(encL p.d1++encL p.dr))))))):=by
   unfold bytesD
   rw [if_neg (by rw [hk];decide)]
   simp
  rw [e]
  show finD (rawD (kindD 1) _)=_
  rw [show kindD 1=p.kind from hk.symm]
  refine fin _ ?_
  unfold rawD
  rw [if_pos hk]
  exact begin_back p h hk (mayD_begin hm hk)
 ·have e:bytesD p=2::(be8 p.game++actionI p.act):=by
   unfold bytesD
   rw [if_pos hk]
   simp
  rw [e]
  show finD (rawD (kindD 2) _)=_
  rw [show kindD 2=p.kind from hk.symm]
  refine fin _ ?_
  unfold rawD
  rw [if_neg (by rw [hk];decide),if_pos hk]
  unfold actC
  rw [ccod_num.back _ _ _ h.game]
  dsimp only
  have hr:readA (actionI p.act)=(p.act,0,0):=by unfold readA;rw [codec_action.whole_back h.act]
  rw [hr]
  conv=>rhs;rw [mayD_act hm hk]
  rfl
theorem kind_one {y:UInt8} (h:kindD y=1):y=1:=by
 have h2:∀n:Fin 256,IntKind.i8.wrap ((n.val:Nat):Int)=1→n.val=1:=by decide+kernel
 exact UInt8.toNat_inj.1 (h2 ⟨y.toNat,y.toNat_lt⟩ h)
theorem kind_two {y:UInt8} (h:kindD y=2):y=2:=by
 have h2:∀n:Fin 256,IntKind.i8.wrap ((n.val:Nat):Int)=2→n.val=2:=by decide+kernel
 exact UInt8.toNat_inj.1 (h2 ⟨y.toNat,y.toNat_lt⟩ h)
theorem read_fwd {b:List UInt8} {p:DeedP} (h:readD b=(p,0)):mayD p=true∧bytesD p=b:=by
 match b,h with
 | [],h=>cases h
 |y::r,h=>
  have h:finD (rawD (kindD y) ⟨r,false⟩)=(p,0):=h
  unfold finD at h
  split at h
  ·cases h
  ·rename_i hb
   simp only [not_or,Bool.not_eq_true,Nat.not_lt,Nat.le_zero,Bool.not_eq_false] at hb
   obtain ⟨b1,b2,b3⟩:=hb
   simp only [Prod.mk.injEq,and_true] at h
   subst h
   have hr:=List.eq_nil_of_length_eq_zero b2
   refine ⟨b3,?_⟩
   have hk:(rawD (kindD y) ⟨r,false⟩).1.kind=kindD y:=by
    unfold rawD
    split
    ·rename_i e;rw [e];rfl
    ·split
     ·rename_i e;rw [e];rfl
     ·rfl
   rcases mayD_kind b3 with e|e
   ·have e1:=kind_one (hk▸e)
    subst e1
    have e2:rawD (kindD 1) ⟨r,false⟩=beginC ⟨r,false⟩:=rfl
    rw [e2] at b1 hr e⊢
    have:=begin_fwd _ b1
    rw [hr,List.append_nil] at this
    dsimp only at this
    unfold bytesD
    rw [if_neg (by rw [e];decide)]
    conv=>rhs;rw [this]
    simp
   ·have e1:=kind_two (hk▸e)
    subst e1
    have e2:rawD (kindD 2) ⟨r,false⟩=actC ⟨r,false⟩:=rfl
    rw [e2] at b1 hr e⊢
    unfold actC at b1
    dsimp only at b1
    simp only [Bool.or_eq_false_iff,decide_eq_false_iff_not,Decidable.not_not] at b1
    obtain ⟨c1,c2⟩:=b1
    obtain ⟨d1,d2,d3⟩:=ccod_num.fwd _ c1
    have hra:∃q,rdWhole rdAction (numC ⟨r,false⟩).2.b= .ok q:=by
     unfold readA at c2
     cases hq:rdWhole rdAction (numC ⟨r,false⟩).2.b with
     |error k=>rw [hq] at c2;cases c2
     |ok q=>exact ⟨q,rfl⟩
    obtain ⟨q,hq⟩:=hra
    have hqa:(readA (numC ⟨r,false⟩).2.b).1=q:=by unfold readA;rw [hq]
    obtain ⟨-,e3⟩:=codec_action.whole_fwd hq
    unfold bytesD
    rw [if_pos e]
    unfold actC
    dsimp only
    rw [hqa,e3]
    dsimp only at d3
    conv=>rhs;rw [d3]
    simp
end
end Go.Proofs.YtioigihakjlopaaGreat

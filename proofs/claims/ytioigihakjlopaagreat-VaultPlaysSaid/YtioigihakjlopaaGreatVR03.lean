import Derived.Test.YtioigihakjlopaaGreatVR02
import Derived.StringKeys
namespace Go.Proofs.YtioigihakjlopaaGreat
open Go.Proofs.Tryz
set_option linter.unusedVariables false
set_option linter.unusedSimpArgs false
set_option maxHeartbeats 16000000
set_option maxRecDepth 100000
section
open Go.RowKit Go.Maps
theorem Mid.take {w:As} {B:Nat} {e:TypeId} {a:Lt} {n c:Nat} {vs:AT} (h:Mid w B e a n c vs) {k:Nat} (A:k<=n):Mid w B e a k c (vs.take k):=by
 refine ⟨by rw [ltA,h.len];omega,Vd A h.le,h.max,h.nil,fun D=> ?_⟩;obtain ⟨r,o,C,E,F,G,H,I⟩:=h.row D;refine ⟨r,o,C,E,F,G,H,?_⟩;rw [<-I,List.take_take,Nat.min_eq_left A]
structure ct where
 nm:bB
 blk:Nat
 a:Lt
 c:Nat
 b:Le
 sure:Nat
def ct.p (f:ct):dJ:=⟨f.nm,f.b,f.sure⟩
structure aG where
 d:Nat
 m:Nat
 fs:List ct
 down:Bool
 armed:Bool
 left:Int
 pa:Lt
 pc:Nat
 plan:ef
def aG.p (r:aG):aN:=⟨r.fs.map (·.p),r.down,r.armed,r.left,r.plan⟩
def dH (x:bB×Int):AT:=[.string x.1,.int .i64 x.2]
def oT (s:bB):Lit:= .string s.data.toList
theorem lg {s t:bB} (h:oT s=oT t):s=t:=by
 obtain ⟨⟨a⟩⟩:=s;obtain ⟨⟨b⟩⟩:=t;simp only [oT,Lit.string.injEq] at h;rw [h]
def gx (f:ct):Lit×DU:=(oT f.nm,.lit (.int .i64 (f.blk:Int)))
structure jX (w:As) (B:Nat) (f:ct):Prop where
 blk:Blk w f.blk #[.slice f.a f.b.length f.c,.int .i64 (f.sure:Int)] 112
 ge:B<=f.blk
 row:Mid w B 5 f.a f.b.length f.c (f.b.map bv)
def iI (r:aG):AS:= #[.map (some r.m),.bool r.down,.bool r.armed,.int .i64 r.left,.slice r.pa r.plan.length r.pc]
structure aK (w:As) (B:Nat) (r:aG):Prop where
 ged:B<=r.d
 gem:B<=r.m
 blk:Blk w r.d (iI r) 85
 map:iV w prog 9 Rp r.m (r.fs.map gx)
 files:∀f∈r.fs,jX w B f
 apart:r.fs.Pairwise fun f g=>f.blk≠g.blk/\∀x,bI f.a f.c=some x->bI g.a g.c≠some x
 plan:Own w B 130 2 r.pa r.plan.length r.pc (r.plan.flatMap dH)
 ok:dY r.p
def fp (r:aG) (x:Nat):Prop:=x=r.d\/x=r.m\/(∃f∈r.fs,x=f.blk\/bI f.a f.c=some x)\/r.pa.map (·.block)=some x
section
variable {w w':As} {B:Nat} {f:ct} {r r' r'':aG}
theorem jX.keep (h:jX w B f) (A:w'.heap[f.blk]? =w.heap[f.blk]?) (C:∀x,bI f.a f.c=some x->w'.heap[x]? =w.heap[x]?):jX w' B f:=
 ⟨A.trans h.blk,h.ge,h.row.keep C⟩
theorem aK.keep (h:aK w B r) (A:∀x,fp r x->w'.heap[x]? =w.heap[x]?):aK w' B r:=
 ⟨h.ged,h.gem,(A _ (.inl rfl)).trans h.blk,h.map.keep (A _ (.inr (.inl rfl))),fun f C=>(h.files f C).keep (A _ (.inr (.inr (.inl ⟨f,C,.inl rfl⟩)))) (fun x hx=>A _ (.inr (.inr (.inl ⟨f,C,.inr hx⟩)))),
  h.apart,h.plan.keepAt fun x hx=>A _ (.inr (.inr (.inr (by rw [hx];rfl)))),h.ok⟩
theorem aK.lt (h:aK w B r) {x:Nat} (hx:fp r x):B<=x/\x<w.heap.size:=by
 rcases hx with rfl|rfl|⟨f,A,rfl|hx⟩|hx
 .exact ⟨h.ged,h.blk.lt⟩
 .exact ⟨h.gem,h.map.lt⟩
 .exact ⟨(h.files f A).ge,(h.files f A).blk.lt⟩
 .obtain ⟨C,D,_⟩:=(h.files f A).row.lt hx;exact ⟨C,D⟩
 .rw [WH] at hx;obtain ⟨a,E,rfl⟩:=hx;obtain ⟨C,D,_⟩:=h.plan.block_lt E;exact ⟨C,D⟩
theorem aK.old (h:aK w B r) (A:Below w.heap.size w w'):aK w' B r:=h.keep fun x hx=>A.block x (h.lt hx).2
theorem aK.drew (h:aK w B r):aK w.drew B r:=h.keep fun _ _=>rfl
theorem aK.alloc (h:aK w B r) (o:Obj):aK (w.alloc o) B r:=h.old ((VW _ _).alloc (VU _) o)
theorem aK.turn (h:aK w B r) {F:Nat->Prop} (A:aJ F w w') (C:∀x,fp r x->¬F x):aK w' B r:=h.keep fun x hx=>A.block x (h.lt hx).2 (C x hx)
structure bL (B:Nat) (w:As) (r:aG) (w':As) (r':aG):Prop where
 turn:aJ (fp r) w w'
 at':aK w' B r'
 foot':∀x,fp r' x->fp r x\/w.heap.size<=x
 d:r'.d=r.d
theorem bL.refl (h:aK w B r):bL B w r w r:=⟨aJ.refl _ _,h,fun _ hx=> .inl hx,rfl⟩
theorem bL.trans {C:As} (h:bL B w r w' r') (h':bL B w' r' C r''):bL B w r C r'':=
 ⟨h.turn.trans h'.turn h.foot',h'.at',fun x hx=>by
  rcases h'.foot' x hx with A|A
  .exact h.foot' x A
  .exact .inr (Vd h.turn.size A),h'.d.trans h.d⟩
theorem bL.below (h:bL B w r w' r') (A:aK w B r) (C:B<=w.heap.size):Below B w w':=h.turn.below (fun _ hx=>(A.lt hx).1) C
theorem aK.ne_file (h:aK w B r) (A:f∈r.fs):f.blk≠r.d:=Blk.ne (h.files f A).blk h.blk dcA
theorem aK.ne_map (h:aK w B r) {b:Nat} {cs:AS} {t:TypeId} (C:Blk w b cs t):b≠r.m:=by
 rintro rfl;obtain ⟨D,⟨F,E,A,_⟩,_⟩:=h.map.ex;rw [C] at A;cases A
theorem aK.ne_row (h:aK w B r) (C:f∈r.fs) {x:Nat} (hx:bI f.a f.c=some x) {b:Nat} {cs:AS} {t:TypeId} (D:Blk w b cs t) (E:t≠5):x≠b:=by
 obtain ⟨_,_,F,A⟩:=(h.files f C).row.lt hx;exact Blk.ne A D (Vl E)
theorem aK.ne_plan (h:aK w B r) {A:Addr} (D:r.pa=some A) {b:Nat} {cs:AS} {t:TypeId} (E:Blk w b cs t) (F:t≠130):A.block≠b:=by
 obtain ⟨_,_,G,C⟩:=h.plan.block_lt D;exact Blk.ne C E (Vl F)
theorem Jt {α:Type} {R:α->α->Prop} {l:List α} (h:l.Pairwise R) (F:∀a b,R a b->R b a) {a b:α} (C:a∈l) (D:b∈l) (E:a≠b):R a b:=by
 induction l with
 |nil=>cases C
 |cons x l ih=>
  rw [List.pairwise_cons] at h;rcases Vk.1 C with rfl|A
  .rcases Vk.1 D with rfl|hb'
   .exact (E rfl).elim
   .exact h.1 b hb'
  .rcases Vk.1 D with rfl|hb'
   .exact F _ _ (h.1 a A)
   .exact ih h.2 A hb'
theorem aK.apart' (h:aK w B r) {g:ct} (D:f∈r.fs) (E:g∈r.fs) (C:f.nm≠g.nm):f.blk≠g.blk/\∀x,bI f.a f.c=some x->bI g.a g.c≠some x:=
 Jt h.apart (fun a b A=>⟨Vl A.1,fun x hx e=>A.2 x e hx⟩) D E (fun e=>C (by rw [e]))
theorem xQ (fs:List ct):(fs.map (·.p)).map (·.name)=fs.map (·.nm):=by rw [We];rfl
theorem aK.names (h:aK w B r):(r.fs.map (·.nm)).Nodup:=by
 have:=h.ok.names;rwa [show r.p.fs=r.fs.map (·.p) from rfl,xQ] at this
theorem aK.same (h:aK w B r) {g:ct} (C:f∈r.fs) (D:g∈r.fs) (F:f.nm=g.nm):f=g:=by
 have A:=h.names;generalize r.fs=l at C D A
 induction l with
 |nil=>cases C
 |cons x l ih=>
  simp only [WG,XR] at A;rcases Vk.1 C with rfl|E
  .rcases Vk.1 D with rfl|hg'
   .rfl
   .exact (A.1 (F▸WY (f:=fun x:ct=>x.nm) hg')).elim
  .rcases Vk.1 D with rfl|hg'
   .exact (A.1 (F▸WY (f:=fun x:ct=>x.nm) E)).elim
   .exact ih E hg' A.2
theorem aK.head (h:aK w B r) (A:aG) (I:A.d=r.d) (J:A.m=r.m) (F:A.fs=r.fs) (G:A.pa=r.pa) (H:A.pc=r.pc) (E:A.plan=r.plan) (L:0<=A.left/\A.left<=9223372036854775807)
  (M:Blk w' r.d (iI A) 85) (C:∀x,x≠r.d->w'.heap[x]? =w.heap[x]?):aK w' B A:=by
 obtain ⟨d2,V,S,O,N,P,T,U,R⟩:=A;dsimp only at I J F G H E L;subst I J F G H E;refine ⟨h.ged,h.gem,M,h.map.keep (C _ (Vl (h.ne_map h.blk))),fun f D=>(h.files f D).keep (C _ (h.ne_file D)) (fun x hx=>C _ (h.ne_row D hx h.blk dcA)),h.apart,
  h.plan.keepAt fun x hx=>C _ (h.ne_plan hx h.blk dcA),⟨h.ok.names,h.ok.named,h.ok.sure,h.ok.size,h.ok.count,L⟩⟩
theorem wk {A:aG} (E:A.d=r.d) (F:A.m=r.m) (C:A.fs=r.fs) (D:A.pa=r.pa) {x:Nat} (hx:fp A x):fp r x:=by
 unfold fp at hx⊢;rw [E,F,C,D] at hx;exact hx
def oK (fs:List ct) (nm:bB) (g:ct->ct):List ct:=fs.map fun f=>if f.nm=nm then g f else f
theorem pS (fs:List ct) (nm:bB) (g:ct->ct) (A:dJ->dJ) (C:∀f∈fs,f.nm=nm->(g f).p=A f.p):(oK fs nm g).map (·.p)=BV (fs.map (·.p)) nm A:=by
 unfold oK BV;rw [We,We];refine WQ fun f D=> ?_;simp only [Function.comp];by_cases e:f.nm=nm
 .rw [Vz e,Vz (show f.p.name=nm from e)];exact C f D e
 .rw [VV e,VV (show ¬f.p.name=nm from e)]
theorem oZ {fs:List ct} {nm:bB} {g:ct->ct} {x:ct} (h:x∈oK fs nm g):∃f∈fs,(f.nm=nm/\x=g f)\/(f.nm≠nm/\x=f):=by
 obtain ⟨f,A,rfl⟩:=VH.1 h;refine ⟨f,A,?_⟩;by_cases e:f.nm=nm
 .exact .inl ⟨e,by rw [Vz e]⟩
 .exact .inr ⟨e,by rw [VV e]⟩
theorem Ai (fs:List ct) (nm:bB) (g:ct->ct) (A:∀f∈fs,(g f).nm=f.nm/\(g f).blk=f.blk):(oK fs nm g).map gx=fs.map gx:=by
 unfold oK;rw [We];refine WQ fun f C=> ?_;simp only [Function.comp];by_cases e:f.nm=nm
 .rw [Vz e];unfold gx;rw [(A f C).1,(A f C).2]
 .rw [VV e]
theorem aK.upd (h:aK w B r) (nm:bB) (G:ct->ct) (E:∀f∈r.fs,(G f).nm=f.nm/\(G f).blk=f.blk)
  (P:w'.heap[r.d]? =w.heap[r.d]?) (R:w'.heap[r.m]? =w.heap[r.m]?) (L:∀x,r.pa=some x->w'.heap[x.block]? =w.heap[x.block]?)
  (H:∀f∈r.fs,f.nm≠nm->w'.heap[f.blk]? =w.heap[f.blk]?/\∀x,bI f.a f.c=some x->w'.heap[x]? =w.heap[x]?)
  (S:∀f∈r.fs,f.nm=nm->jX w' B (G f)) (I:∀f∈r.fs,f.nm=nm->∀g∈r.fs,g.nm≠nm->∀x,bI (G f).a (G f).c=some x->bI g.a g.c≠some x)
  (M:dY (aG.p {r with fs:=oK r.fs nm G})):aK w' B {r with fs:=oK r.fs nm G}:=by
 have J:∀f∈oK r.fs nm G,jX w' B f:=by
  intro x hx;obtain ⟨f,A,⟨e,rfl⟩|⟨e,rfl⟩⟩:=oZ hx
  .exact S f A e
  .exact (h.files _ A).keep (H _ A e).1 (H _ A e).2
 refine ⟨h.ged,h.gem,P.trans h.blk,?_,J,?_,h.plan.keepAt L,M⟩
 .show iV w' prog 9 Rp r.m ((oK r.fs nm G).map gx);rw [Ai _ _ _ E];exact h.map.keep R
 .have hn:r.fs.Pairwise fun f g=>f.nm≠g.nm:=by
   have:=h.names;rw [List.Nodup,List.pairwise_map] at this;exact this
  show (oK r.fs nm G).Pairwise _;unfold oK;rw [List.pairwise_map];refine List.Pairwise.imp_of_mem ?_ (List.Pairwise.and hn h.apart);intro f g A D ⟨N,F,T⟩;by_cases e:f.nm=nm
  .have C:g.nm≠nm:=fun C=>N (e.trans C.symm);rw [Vz e,VV C];exact ⟨by rw [(E f A).2];exact F,I f A e g D C⟩
  .by_cases C:g.nm=nm
   .rw [VV e,Vz C];exact ⟨by rw [(E g D).2];exact F,fun x hx O=>I g D C f A e x O hx⟩
   .rw [VV e,VV C];exact ⟨F,T⟩
end
theorem JW:Keyed prog 9:=string_keyed underlying9
theorem yG (w:As):(zeroValue 110).run prog w= .ok (.pointer none) w:=by kernel_rfl
theorem nY (fs:List ct):(fs.map gx).map Prod.fst=fs.map fun f=>oT f.nm:=by rw [We];rfl
section
variable {w w':As} {B:Nat} {r:aG} {nm:bB}
theorem aK.look (h:aK w B r) (A:nm.size<=maxLen) {f:ct} (C:f∈r.fs) (D:f.nm=nm):(Instr.lookup 83 (.map (some r.m)) (.string nm) false).run prog w= .ok (.pointer (some ⟨f.blk,0,none⟩)) w:=by
 obtain ⟨v,ps,E,F⟩:=h.map.look JW underlying83 (yG w) rfl (XG underlying9 A) (d:= .lit (.int .i64 (f.blk:Int))) (VH.2 ⟨f,C,by simp [gx,oT,D]⟩);rw [E,Iw F]
theorem aK.look_no (h:aK w B r) (A:nm.size<=maxLen) (C:∀f∈r.fs,f.nm≠nm):(Instr.lookup 83 (.map (some r.m)) (.string nm) false).run prog w= .ok (.pointer none) w:=by
 obtain ⟨v,ps,D,E⟩:=h.map.look_no JW underlying83 (yG w) rfl (XG underlying9 A) (by
  rw [nY];intro F;obtain ⟨f,G,e⟩:=VH.1 F;exact C f G (lg e))
 rw [D,NF E]
theorem MP (fs:List ct) (nm:bB):(∃f∈fs,f.nm=nm/\(fs.map (·.p)).find? (fun f=>f.name=nm)=some f.p)\/((∀f∈fs,f.nm≠nm)/\(fs.map (·.p)).find? (fun f=>f.name=nm)=none):=by
 induction fs with
 |nil=>exact .inr ⟨skA,rfl⟩
 |cons x l ih=>
  by_cases e:x.nm=nm
  .exact .inl ⟨x,skA,e,by simp [ct.p,e]⟩
  .rcases ih with ⟨f,A,C,D⟩|⟨C,D⟩
   .refine .inl ⟨f,by simp [A],C,?_⟩;rw [WG,XK,VO (show ¬x.p.name=nm from e)];exact D
   .refine .inr ⟨?_,?_⟩
    .intro f A;rcases Vk.1 A with rfl|E
     .exact e
     .exact C f E
    .rw [WG,XK,VO (show ¬x.p.name=nm from e)];exact D
end
theorem pY (s:ByteArray):s.toList.isEmpty=decide (s.size=0):=by
 obtain ⟨⟨l⟩⟩:=s;rw [show (ByteArray.mk ⟨l⟩).toList=l from XD l,show (ByteArray.mk ⟨l⟩).size=l.length from by simp [ByteArray.size]];cases l<;>simp
theorem mV (s:ByteArray) (w:As):Calls prog 60 #[.string s] w fun e w'=>e= .returned (.bool (dm s))/\w'=w:=by
 have C:dm s=(!s.toList.isEmpty&&decide ((s.size:Int)<=40)):=by
  unfold dm;rw [pY];by_cases A:s.size=0
  .simp [A]
  .simp [A];omega
 rw [C];clear C;by_cases A:s.toList.isEmpty=true
 .have h1:s.toList=[]:=ZB.1 A;rw [A];go_enter func60,ntmps60;go_wp2_with fail
  all_goals first|(exact absurd h1 asA)|(go_ret;exact ⟨rfl,rfl⟩)
 .have h1:¬s.toList=[]:=fun e=>A (by rw [e];rfl);go_enter func60,ntmps60;go_wp2_with fail
  all_goals first|(exact absurd asA h1)|(go_ret;exact ⟨by simp [List.isEmpty_eq_false_iff.2 h1],rfl⟩)
theorem ul {w:As} {B:Nat} {r:aG} {nm:bB} (h:aK w B r) (E:nm.size<=maxLen) (g:Nat) (lb:AS) (L:∀args w,(callFunc g args).run prog w= .ok (.enter g args) w) (R:Int->World->Prop)
  (H:r.down=true->R 5 w) (I:r.down=false->(∀f∈r.fs,f.nm≠nm)->R 4 w)
  (G:∀f∈r.fs,f.nm=nm->r.down=false->Calls prog g (#[.pointer (some ⟨f.blk,0,none⟩)]++lb) w fun e w'=>∃v,e= .returned (.int .i64 v)/\R v w'):
  Calls prog 58 #[.pointer (some ⟨r.d,0,none⟩),.string nm,.func (.func g) #[] lb] w fun e w'=>∃v,e= .returned (.int .i64 v)/\R v w':=by
 have D:=h.blk.rule;unfold iI at D;cases A:r.down with
 |true=>
  rw [A] at D;go_enter func58,ntmps58;go_wp2_with fail;go_ret;exact ⟨5,rfl,H A⟩
 |false=>
  rw [A] at D;rcases MP r.fs nm with ⟨f,F,C,_⟩|⟨C,_⟩
  .have hl:=h.look E F C;go_enter func58,ntmps58;go_wp2_with fail;refine (G f F C A).mono ?_;rintro e w1 ⟨v,rfl,J⟩;go_wp2_with fail;go_ret;exact ⟨v,rfl,J⟩
  .have hl:=h.look_no E C;go_enter func58,ntmps58;go_wp2_with fail;go_ret;exact ⟨4,rfl,I A C⟩
theorem kv {w:As} {C:Array Oper} {rest:List Oper} {o:Oper} {a:Act} {Q:Exit->Act->World->Prop} (V:o.guard=none) (H:Operand) (D:o.op=Op.next H false) {M n:Nat} {l:List (Lit×DU)} {ys:List ct}
  (E:a.eval H= .pointer (some ⟨n,0,none⟩)) (h:wW w prog 9 Rp M n l (ys.map gx))
  (N:ys=[]->wpList prog C Q rest (a.put o.dst (.tuple #[.bool false])) w)
  (O:∀f∈ys,∀w',wW w' prog 9 Rp M n l ((ys.filter fun g=>decide (g.nm≠f.nm)).map gx)->w'.rangeLeft M n<w.rangeLeft M n->w.grownBy w' (some n)->w'.heap.size=w.heap.size->
   (Instr.entry (.pointer (some ⟨n,0,none⟩))).run prog w'= .ok (.tuple #[.string f.nm,.pointer (some ⟨f.blk,0,none⟩)]) w'->wpList prog C Q rest (a.put o.dst (.tuple #[.bool true,.string f.nm,.pointer (some ⟨f.blk,0,none⟩)])) w'):
  wpList prog C Q (o::rest) a w:=by
 refine XJ V fun q F=> ?_;unfold Oper.wp;rcases h.next JW o.type with ⟨X,A⟩|⟨p,v,kl,d,ps,w',P,Y,I,A,G,R,S,T,U⟩
 .simp [execOp,D,E,A,Result.andThen];exact F _ _ (N (by simpa using X))
 .obtain ⟨f,Z,J⟩:=VH.1 Y;obtain ⟨s,rfl,b,_⟩:=Go.WideMaps.string_of_keyOf underlying9 P;have L:oT f.nm=kl:=WS Prod.fst J;have c:(DataW.lit (.int .i64 (f.blk:Int)):DU)=d:=WS Prod.snd J;obtain rfl:s=f.nm:=lg (by rw [L,b];rfl);rw [<-c] at I;obtain rfl:=Iw I;have j:(ys.map gx).filter (fun x=> !cK kl x)=(ys.filter fun g=>decide (g.nm≠f.nm)).map gx:=by
   rw [List.filter_map];refine WS (List.map gx) ?_;refine List.filter_congr fun g _=> ?_;simp only [Function.comp,cK,gx,<-L];by_cases e:g.nm=f.nm
   .rw [e,(cY (show WideAt.IsKeyLit (oT f.nm) by simp [oT,WideAt.IsKeyLit])).2 rfl];simp
   .have:Lit.sameKey (oT g.nm) (oT f.nm)=false:=by
     rw [VY];intro m;exact e (lg (Vg m))
    rw [this];simp [e]
  rw [j] at G;simp [execOp,D,E,A,Result.andThen];exact F _ _ (O f Z w' G R S T U)
theorem Hm:lY prog 130 2:=⟨⟨_,underlying130,rfl⟩,krA⟩
theorem ni (a b:ByteArray):(a.toList==b.toList)=decide (a=b):=by
 obtain ⟨⟨l⟩⟩:=a;obtain ⟨⟨m⟩⟩:=b;rw [show (ByteArray.mk ⟨l⟩).toList=l from XD l,show (ByteArray.mk ⟨m⟩).toList=m from XD m];rw [WX,XY,WW];simp
theorem zm (bx:Nat) (nm:bB) (x:bB×Int) (w:As) (h:w.cell? ⟨bx,0,none⟩=some (.string nm)):
  Calls prog 75 #[.agg #[.string x.1,.int .i64 x.2],.pointer (some ⟨bx,0,none⟩)] w fun e w'=>e= .returned (.bool (decide (x.1=nm)))/\Below w.heap.size w w':=by
 have A:=Vx w _ h;rw [<-ni];go_enter func75,ntmps75;have C:(w.alloc (.cells #[.string x.1,.int .i64 x.2] 130)).cell? ⟨bx,0,none⟩=some (.string nm):=(by rw [((VW _ _).alloc (VU _) _:Below w.heap.size w _).cell A];exact h);go_wp2_with fail;go_ret;exact ⟨rfl,(VW _ _).alloc (VU _) _⟩
theorem Ml:bC prog 47 130 2 24:=bC.mk (z:= .agg #[.string ByteArray.empty,.int .i64 0]) underlying47 krA rfl oA
def NU (w:As) (plan:ef) (nm:bB) (n:Nat) (f:Nat) (i:Value) (w':As):Prop:=
 ∃k:Nat,k+f=n/\i= .int .i64 (k:Int)/\(∀j (h:j<plan.length),j<k->plan[j].1≠nm)/\Below w.heap.size w w'
theorem DH (a:Lt) (n c:Nat) (plan:ef) (bx:Nat) (nm:bB) (w:As) (h:w.cell? ⟨bx,0,none⟩=some (.string nm)) (T:av w a (plan.flatMap dH)) (L:plan.length=n) (U:n<=maxLen):
  Calls prog 74 #[.slice a n c,.func (.func 75) #[] #[.pointer (some ⟨bx,0,none⟩)]] w fun e w'=>
   ∃k:Int,e= .returned (.int .i64 k)/\Below w.heap.size w w'/\((k= -1/\∀x∈plan,x.1≠nm)\/∃(i:Nat) (Y:i<plan.length),k=(i:Int)/\plan[i].1=nm/\∀j (A:j<plan.length),j<i->plan[j].1≠nm):=by
 have R:=Vx w _ h;have M:=Hd L;clear L;unfold maxLen at U;go_enter func74,ntmps74;go_wp2_with fail;go_loopg [8] n (NU w plan nm n)
 case atStart=>exact ⟨0,oA,rfl,fun _ _ h=>by omega,VW _ _⟩
 case round=>
  obtain ⟨k,Z,rfl,E,C⟩:=hrel;by_cases P:k<n
  .have hkl:k<plan.length:=(by rw [M.out];exact P);obtain ⟨b,o,rfl,S,G⟩:=T.elem (g:=dH) (sz:=2) (fun _=>rfl) oA k hkl;have N:=Hd (show ∃x,plan[k]=x from ⟨_,rfl⟩);obtain ⟨x,hx⟩:=N.out;clear N;rw [hx] at G;have H:∀j (A:j<(dH x).length),wr.cell? ⟨b,o+k*2+j,none⟩=some (dH x)[j]:=fun j A=>(by rw [C.cell (show b<w.heap.size from S)];exact G j A);have O:=Hd H;have I:wr.cell? ⟨bx,0,none⟩=some (.string nm):=(by rw [C.cell R];exact h);clear G H;by_cases D:x.1=nm
   .have HD:=Hd (show decide (x.1=nm)=true by simp [D]);have V:=Hd D;clear D;go_wp2_with (first|refine dZ rfl 130 Hm (.tmp 14) rfl rfl (v:= .agg #[.string x.1,.int .i64 x.2]) rfl O.out rfl ?_|(go_at_call 75;have J:=zm bx nm x _ I;rw [HD.out] at J;refine J.mono ?_;rintro e w1 ⟨rfl,F⟩));go_ret;exact ⟨k,rfl,aa C F,.inr ⟨k,hkl,rfl,by rw [hx];exact V.out,E⟩⟩
   .go_wp2_with (first|refine dZ rfl 130 Hm (.tmp 14) rfl rfl (v:= .agg #[.string x.1,.int .i64 x.2]) rfl O.out rfl ?_|(go_at_call 75;refine (zm bx nm x _ I).mono ?_;rintro e w1 ⟨rfl,F⟩));go_roundg (gk-1)
    case measure=>omega
    case rel=>
     refine ⟨k+1,oA,gnA,fun j A X=> ?_,aa C F⟩;by_cases e:j=k
     .subst e;rw [hx];exact D
     .exact E j A oA
  .have hkn:k=n:=oA;go_wp2_with fail;go_ret;refine ⟨-1,rfl,C,.inl ⟨rfl,fun x hx=> ?_⟩⟩;obtain ⟨j,A,rfl⟩:=List.mem_iff_getElem.1 hx;exact E j A (by rw [M.out] at A;omega)
end
section
open Go.RowKit
def FR (a:bF):Bool:=decide (a.op=0)&&(decide (a.side=0)&&(decide (a.place=0)&&(decide (a.target=0)&&decide (a.ids.length+a.pairs.length=0))))
def may1 (x:ao):Bool:=decide (0<=x.game)&&decide (0<=x.table)
def Ga (x:ao):Bool:=decide (x.fmt.size<=40)&&(dm x.n0&&(dm x.n1&&(decide (x.d0.length<=60)&&(decide (x.d1.length<=60)&&(decide (x.dr.length<=256)&&FR x.act)))))
def EU (x:ao):Bool:=decide (x.kind=2)&&(decide (x.table=0)&&(decide (x.fmt.size=0)&&((decide (x.n0.size=0)&&decide (x.n1.size=0))&&decide (x.d0.length+x.d1.length+x.dr.length=0))))
def nt (x:ao) (k:Nat):Bool:=if k=0 then may1 x else if k=1 then (if x.kind=1 then Ga x else true) else (if x.kind=1 then true else EU x)
def iE (x:ao):Bool:=nt x 0&&nt x 1&&nt x 2
theorem cD (s:ByteArray) (w:As):Calls prog 92 #[.string s] w fun e w'=>e= .returned (.bool (dm s))/\w'=w:=by
 have C:dm s=(!s.toList.isEmpty&&decide ((s.size:Int)<=40)):=by
  unfold dm;rw [pY];by_cases A:s.size=0
  .simp [A]
  .simp [A];omega
 rw [C];clear C;by_cases A:s.toList.isEmpty=true
 .have h1:s.toList=[]:=ZB.1 A;rw [A];go_enter func92,ntmps92;go_wp2_with fail
  all_goals first|(exact absurd h1 asA)|(go_ret;exact ⟨rfl,rfl⟩)
 .have h1:¬s.toList=[]:=fun e=>A (by rw [e];rfl);go_enter func92,ntmps92;go_wp2_with fail
  all_goals first|(exact absurd asA h1)|(go_ret;exact ⟨by simp [List.isEmpty_eq_false_iff.2 h1],rfl⟩)
theorem Gb (b:Nat) (p:ao) (h:aY) (w:As) (A:Blk w b (af p h).toArray 40):Calls prog 90 #[.pointer (some ⟨b,0,none⟩)] w fun e w'=>e= .returned (.bool (nt p 0))/\w'=w:=by
 have c1:w.cell? ⟨b,1,none⟩=some (.int .i64 p.game):=A.cell rfl;have c2:w.cell? ⟨b,2,none⟩=some (.int .i64 p.table):=A.cell rfl;rw [show nt p 0=(decide (0<=p.game)&&decide (0<=p.table)) from rfl];clear A;generalize p.game=g at*;generalize p.table=t at*;by_cases C:0<=g
 .go_enter func90,ntmps90;go_wp2_with fail;go_ret;exact ⟨by simp [C],rfl⟩
 .go_enter func90,ntmps90;go_wp2_with fail;go_ret;exact ⟨by rw [VO (show ¬0<=g by omega),Wj];rfl,rfl⟩
theorem IZ (w:As):(sizeOf 9).run prog w= .ok 1 w:=by
 have:(Tryz.prog.info? 9).map (fun i=>i.size)=some 1:=(by kernel_rfl);cases A:Tryz.prog.info? 9 with
 |none=>simp [A] at this
 |some i=>simp [A] at this;simp [sizeOf,typeInfo,A,this]
theorem Ib (a b c d:bB) (w:As):(binOp .eql 33 (.agg #[.string a,.string b]) (.agg #[.string c,.string d])).run prog w= .ok (.bool (a.toList==c.toList&&b.toList==d.toList)) w:=by
 have D:∀(x y:bB) W,(part 9 #[.string x,.string y] 0).run prog W= .ok (.string x) W:=fun x y W=>(by simp [part,isAgg,WV underlying9]);have A:∀(x y:bB) W,(part 9 #[.string x,.string y] 1).run prog W= .ok (.string y) W:=fun x y W=>(by simp [part,isAgg,WV underlying9]);have C:∀(x y:bB) W,(Op.equalIn (9998+1) 9 (.string x) (.string y)).run prog W= .ok (x.toList==y.toList) W:=fun x y W=>run_equalIn_string W 9998 9 x y underlying9;rw [run_eql_struct,show (10000:Nat)=9998+2 from rfl,Op.equalIn];simp only [Wp,WV underlying33,WE,IZ,YL,Std.Legacy.Range.size,ZD,Xm,Nat.div_one];rw [show List.range' 0 2 1=[0,1] from rfl];simp only [List.forIn_cons,List.forIn_nil,Wp,Zj,Nat.one_mul,D,A,C,WE];cases (a.toList==c.toList)
 .simp
 .have pe':∀(x y:bB) W,(Op.equalIn 9999 9 (.string x) (.string y)).run prog W= .ok (x.toList==y.toList) W:=C;cases E:(b.toList==d.toList)<;>simp [A,pe',E]
theorem qC (s:bB):(s.toList==([]:Le))=decide (s.size=0):=by
 rw [<-pY];cases s.toList<;>rfl
theorem Gw (a b:bB) (w:As):(binOp .eql 33 (.agg #[.string a,.string b]) (.agg #[.string ⟨#[]⟩,.string ⟨#[]⟩])).run prog w= .ok (.bool (decide (a.size=0)&&decide (b.size=0))) w:=by
 rw [Ib,show (ByteArray.toList ⟨#[]⟩)=[] from XD [],qC,qC]
theorem FY (b:Nat) (p:ao) (h:aY) (w:As) (A:Blk w b (af p h).toArray 40) (E:dp w p h):Calls prog 93 #[.pointer (some ⟨b,0,none⟩)] w fun e w'=>e= .returned (.bool (nt p 2))/\Below w.heap.size w w':=by
 have m:w.cell? ⟨b,0,none⟩=some (.int .i8 p.kind):=A.cell rfl;have o:w.cell? ⟨b,2,none⟩=some (.int .i64 p.table):=A.cell rfl;have q:w.cell? ⟨b,3,none⟩=some (.string p.fmt):=A.cell rfl;have s:w.cell? ⟨b,4,none⟩=some (.string p.n0):=A.cell rfl;have t:w.cell? ⟨b,5,none⟩=some (.string p.n1):=A.cell rfl;have y:w.cell? ⟨b,6,none⟩=some (.slice h.d0.a h.d0.n h.d0.c):=A.cell rfl;have a7:w.cell? ⟨b,7,none⟩=some (.slice h.d1.a h.d1.n h.d1.c):=A.cell rfl;have a8:w.cell? ⟨b,8,none⟩=some (.slice h.dr.a h.dr.n h.dr.c):=A.cell rfl;have N:=E.d0.2.1;have O:=E.d1.2.1;have P:=E.dr.2.1;have S:=E.d0.2.2.2.2.1;have T:=E.d1.2.2.2.2.1;have U:=E.dr.2.2.2.2.1;obtain ⟨G,M,table,fmt,n0,n1,d0,d1,dr,R⟩:=p;obtain ⟨⟨X,C,Y⟩,⟨Z,D,d⟩,⟨g,F,j⟩,ha⟩:=h;dsimp only at*;clear A E;by_cases I:G=1
 .subst I;rw [show nt ⟨1,M,table,fmt,n0,n1,d0,d1,dr,R⟩ 2=true from rfl];go_enter func93,ntmps93;go_wp2_with fail;go_ret;exact ⟨rfl,VW _ _⟩
 have k1:(G==1)=false:=(by simpa using I);rw [show nt ⟨G,M,table,fmt,n0,n1,d0,d1,dr,R⟩ 2=(decide (G=2)&&(decide (table=0)&&(decide (fmt.size=0)&&((decide (n0.size=0)&&decide (n1.size=0))&&decide (C+D+F=0))))) from by unfold nt EU;simp [I,N,O,P]];clear I N O P;have l:=fun W=>Gw n0 n1 W;generalize (decide (n0.size=0)&&decide (n1.size=0))=V at*;by_cases J:G=2;rotate_left 1
 .have k2:(G==2)=false:=(by simpa using J);rw [VO J,Wj];clear J;go_enter func93,ntmps93;go_wp2_with fail;go_ret;exact ⟨rfl,VW _ _⟩
 subst J;rw [VK rfl,WU];by_cases L:table=0;rotate_left 1
 .have k2:(table==0)=false:=(by simpa using L);rw [VO L,Wj];clear L;go_enter func93,ntmps93;go_wp2_with fail;go_ret;exact ⟨rfl,VW _ _⟩
 subst L;rw [VK rfl,WU];by_cases H:fmt.size=0;rotate_left 1
 .have k2:fmt.toList≠ []:=fun e=>H (by have:=pY fmt;rw [e] at this;simpa using this.symm);rw [VO H,Wj];clear H;go_enter func93,ntmps93;go_wp2_with fail;have k3:fmt.toList.isEmpty=false:=(by simpa using k2);go_ret;exact ⟨by simp [k3],VW _ _⟩
 have k2:fmt.toList=[]:=ZB.1 (by rw [pY];simpa using H);rw [VK H,WU];clear H;cases V with
 |false=>
  rw [Wj];go_enter func93,ntmps93;go_wp2_with fail;go_ret;exact ⟨rfl,VW _ _⟩
 |true=>
 rw [WU];have t11:IntKind.i64.wrap ((C:Int)+(D:Int))=(C:Int)+(D:Int):=(by rw [VR];omega);have t12:IntKind.i64.wrap ((C:Int)+(D:Int)+(F:Int))=(C:Int)+(D:Int)+(F:Int):=(by rw [VR];omega);have t13:((C:Int)+(D:Int)+(F:Int)==0)=decide (C+D+F=0):=by
  rw [WX,XY,WW];omega
 clear S T U;go_enter func93,ntmps93;go_wp2_with fail;have t14:(decide (C=0)&&decide (D=0)&&decide (F=0))=decide (C+D+F=0):=by
  rw [WX];simp [and_assoc];try omega
 go_ret;exact ⟨by rw [<-t14];rfl,VW _ _⟩
theorem FZ (b c:Nat) (p:ao) (h:aY) (w:As) (D:Blk w b (af p h).toArray 40) (o:Blk w c #[.pointer (some ⟨b,9,none⟩)] 150) (G:dp w p h):Calls prog 91 #[.pointer (some ⟨b,0,none⟩),.pointer (some ⟨c,0,none⟩)] w fun e w'=>e= .returned (.bool (nt p 1))/\Below w.heap.size w w':=by
 have a0:∀W,Old w.drew W->W.cell? ⟨c,0,none⟩=some (.pointer (some ⟨b,9,none⟩)):=fun W C=>(o.drew.old C).cell rfl;have k0:w.cell? ⟨b,0,none⟩=some (.int .i8 p.kind):=D.cell rfl;have a3:∀W,Old w.drew W->W.cell? ⟨b,3,none⟩=some (.string p.fmt):=fun W C=>(D.drew.old C).cell rfl;have a4:∀W,Old w.drew W->W.cell? ⟨b,4,none⟩=some (.string p.n0):=fun W C=>(D.drew.old C).cell rfl;have a5:∀W,Old w.drew W->W.cell? ⟨b,5,none⟩=some (.string p.n1):=fun W C=>(D.drew.old C).cell rfl;have a6:∀W,Old w.drew W->W.cell? ⟨b,6,none⟩=some (.slice h.d0.a h.d0.n h.d0.c):=fun W C=>(D.drew.old C).cell rfl;have a7:∀W,Old w.drew W->W.cell? ⟨b,7,none⟩=some (.slice h.d1.a h.d1.n h.d1.c):=fun W C=>(D.drew.old C).cell rfl;have a8:∀W,Old w.drew W->W.cell? ⟨b,8,none⟩=some (.slice h.dr.a h.dr.n h.dr.c):=fun W C=>(D.drew.old C).cell rfl;have a9:∀W,Old w.drew W->W.cell? ⟨b,9,none⟩=some (.int .i8 p.act.op):=fun W C=>(D.drew.old C).cell rfl;have A1:∀W,Old w.drew W->W.cell? ⟨b,10,none⟩=some (.int .i64 p.act.side):=fun W C=>(D.drew.old C).cell rfl;have A2:∀W,Old w.drew W->W.cell? ⟨b,11,none⟩=some (.int .i64 p.act.place):=fun W C=>(D.drew.old C).cell rfl;have A3:∀W,Old w.drew W->W.cell? ⟨b,12,none⟩=some (.int .i64 p.act.target):=fun W C=>(D.drew.old C).cell rfl;have A4:∀W,Old w.drew W->W.cell? ⟨b,13,none⟩=some (.slice h.act.ids.a h.act.ids.n h.act.ids.c):=fun W C=>(D.drew.old C).cell rfl;have A5:∀W,Old w.drew W->W.cell? ⟨b,14,none⟩=some (.slice h.act.pairs.a h.act.pairs.n h.act.pairs.c):=fun W C=>(D.drew.old C).cell rfl;have q:=G.d0.2.1;have s:=G.d1.2.1;have t:=G.dr.2.1;have y:=G.act.ids.2.1;have l4:=G.act.pairs.2.1;have z3:=G.act.ids.2.2.2.2.1;have z4:=G.act.pairs.2.2.2.2.1;obtain ⟨d,l,table,fmt,n0,n1,d0,d1,dr,op,L,J,target,m,j⟩:=p;obtain ⟨⟨A6,N,A7⟩,⟨A8,O,A9⟩,⟨BY,P,B0⟩,⟨B1,H,B2⟩,⟨B3,I,B4⟩⟩:=h;dsimp only at*;clear D o G;by_cases g:d=1
 .subst g;have M:nt ⟨1,l,table,fmt,n0,n1,d0,d1,dr,⟨op,L,J,target,m,j⟩⟩ 1=(decide (fmt.size<=40)&&(dm n0&&(dm n1&&(decide (N<=60)&&(decide (O<=60)&&(decide (P<=256)&&(decide (op=0)&&(decide (L=0)&&(decide (J=0)&&(decide (target=0)&&decide (H+I=0))))))))))):=by
   rw [<-q,<-s,<-t,<-y,<-l4];rfl
  rw [M];clear M q s t y l4;generalize E:dm n0=o1;generalize F:dm n1=o2;by_cases R:fmt.size<=40;rotate_left 1
  .have t0:decide ((fmt.size:Int)<=40)=false:=soA;rw [VO R,Wj];clear R;go_enter func91,ntmps91;go_wp2_with fail;refine bR (0::1::2::3::4::5::6::7::8::9::10::11::12::13::14::15::16::17::18::19::20::21::22::23::24::25::26::27::28::29::30::31::32::33::34::35::36::37::38::39::40::41::42::43::44::45::46::47::48::49::50::51::52::53::54::55::56::57::58::59::60::61::62::63::64::65::66::67::68::69::70::71::72::73::74::75::76::77::78::[]) krA krA cdA ?_
   repeat refine gxA ?_
   refine eS ?_;go_wp2_with fail;go_ret;exact ⟨rfl,(VW _ _).drew⟩
  have t0:decide ((fmt.size:Int)<=40)=true:=soA;rw [VK R,WU];clear R;cases o1 with
  |false=>
   simp only [Wj,ZX];go_enter func91,ntmps91;go_wp2_with fail;refine bR (0::1::2::3::4::5::6::7::8::9::10::11::12::13::14::15::16::17::18::19::20::21::22::23::24::25::26::27::28::29::30::31::32::33::34::35::36::37::38::39::40::41::42::43::44::45::46::47::48::49::50::51::52::53::54::55::56::57::58::59::60::61::62::63::64::65::66::67::68::69::70::71::72::73::74::75::76::77::78::[]) krA krA cdA ?_
   repeat refine gxA ?_
   refine bV rfl rfl rfA (fun K A=> ?_);go_wp2_with fail;refine (cD _ _).mono ?_;rintro e w1 ⟨rfl,rfl⟩;rw [E];go_wp2_with fail;refine A _ _ (VW _ _) ?_;clear A K
   repeat refine gxA ?_
   refine eS ?_;go_wp2_with fail;go_ret;exact ⟨rfl,(VW _ _).drew⟩
  |true=>
   simp only [WU];cases o2 with
   |false=>
    simp only [Wj,ZX];go_enter func91,ntmps91;go_wp2_with fail;refine bR (0::1::2::3::4::5::6::7::8::9::10::11::12::13::14::15::16::17::18::19::20::21::22::23::24::25::26::27::28::29::30::31::32::33::34::35::36::37::38::39::40::41::42::43::44::45::46::47::48::49::50::51::52::53::54::55::56::57::58::59::60::61::62::63::64::65::66::67::68::69::70::71::72::73::74::75::76::77::78::[]) krA krA cdA ?_
    repeat refine gxA ?_
    refine bV rfl rfl rfA (fun K A=> ?_);go_wp2_with fail;refine (cD _ _).mono ?_;rintro e w1 ⟨rfl,rfl⟩;rw [E];go_wp2_with fail;refine A _ _ (VW _ _) ?_;clear A K
    repeat refine gxA ?_
    refine bV rfl rfl rfA (fun K A=> ?_);go_wp2_with fail;refine (cD _ _).mono ?_;rintro e w1 ⟨rfl,rfl⟩;rw [F];go_wp2_with fail;refine A _ _ (VW _ _) ?_;clear A K
    repeat refine gxA ?_
    refine eS ?_;go_wp2_with fail;go_ret;exact ⟨rfl,(VW _ _).drew⟩
   |true=>
    simp only [WU];by_cases S:N<=60;rotate_left 1
    .have t3:decide ((N:Int)<=60)=false:=soA;rw [VO S,Wj];clear S;go_enter func91,ntmps91;go_wp2_with fail;refine bR (0::1::2::3::4::5::6::7::8::9::10::11::12::13::14::15::16::17::18::19::20::21::22::23::24::25::26::27::28::29::30::31::32::33::34::35::36::37::38::39::40::41::42::43::44::45::46::47::48::49::50::51::52::53::54::55::56::57::58::59::60::61::62::63::64::65::66::67::68::69::70::71::72::73::74::75::76::77::78::[]) krA krA cdA ?_
     repeat refine gxA ?_
     refine bV rfl rfl rfA (fun K A=> ?_);go_wp2_with fail;refine (cD _ _).mono ?_;rintro e w1 ⟨rfl,rfl⟩;rw [E];go_wp2_with fail;refine A _ _ (VW _ _) ?_;clear A K
     repeat refine gxA ?_
     refine bV rfl rfl rfA (fun K A=> ?_);go_wp2_with fail;refine (cD _ _).mono ?_;rintro e w1 ⟨rfl,rfl⟩;rw [F];go_wp2_with fail;refine A _ _ (VW _ _) ?_;clear A K
     repeat refine gxA ?_
     refine eS ?_;go_wp2_with fail;go_ret;exact ⟨rfl,(VW _ _).drew⟩
    have t3:decide ((N:Int)<=60)=true:=soA;rw [VK S,WU];clear S;by_cases T:O<=60;rotate_left 1
    .have t4:decide ((O:Int)<=60)=false:=soA;rw [VO T,Wj];clear T;go_enter func91,ntmps91;go_wp2_with fail;refine bR (0::1::2::3::4::5::6::7::8::9::10::11::12::13::14::15::16::17::18::19::20::21::22::23::24::25::26::27::28::29::30::31::32::33::34::35::36::37::38::39::40::41::42::43::44::45::46::47::48::49::50::51::52::53::54::55::56::57::58::59::60::61::62::63::64::65::66::67::68::69::70::71::72::73::74::75::76::77::78::[]) krA krA cdA ?_
     repeat refine gxA ?_
     refine bV rfl rfl rfA (fun K A=> ?_);go_wp2_with fail;refine (cD _ _).mono ?_;rintro e w1 ⟨rfl,rfl⟩;rw [E];go_wp2_with fail;refine A _ _ (VW _ _) ?_;clear A K
     repeat refine gxA ?_
     refine bV rfl rfl rfA (fun K A=> ?_);go_wp2_with fail;refine (cD _ _).mono ?_;rintro e w1 ⟨rfl,rfl⟩;rw [F];go_wp2_with fail;refine A _ _ (VW _ _) ?_;clear A K
     repeat refine gxA ?_
     refine eS ?_;go_wp2_with fail;go_ret;exact ⟨rfl,(VW _ _).drew⟩
    have t4:decide ((O:Int)<=60)=true:=soA;rw [VK T,WU];clear T;by_cases U:P<=256;rotate_left 1
    .have t5:decide ((P:Int)<=256)=false:=soA;rw [VO U,Wj];clear U;go_enter func91,ntmps91;go_wp2_with fail;refine bR (0::1::2::3::4::5::6::7::8::9::10::11::12::13::14::15::16::17::18::19::20::21::22::23::24::25::26::27::28::29::30::31::32::33::34::35::36::37::38::39::40::41::42::43::44::45::46::47::48::49::50::51::52::53::54::55::56::57::58::59::60::61::62::63::64::65::66::67::68::69::70::71::72::73::74::75::76::77::78::[]) krA krA cdA ?_
     repeat refine gxA ?_
     refine bV rfl rfl rfA (fun K A=> ?_);go_wp2_with fail;refine (cD _ _).mono ?_;rintro e w1 ⟨rfl,rfl⟩;rw [E];go_wp2_with fail;refine A _ _ (VW _ _) ?_;clear A K
     repeat refine gxA ?_
     refine bV rfl rfl rfA (fun K A=> ?_);go_wp2_with fail;refine (cD _ _).mono ?_;rintro e w1 ⟨rfl,rfl⟩;rw [F];go_wp2_with fail;refine A _ _ (VW _ _) ?_;clear A K
     repeat refine gxA ?_
     refine eS ?_;go_wp2_with fail;go_ret;exact ⟨rfl,(VW _ _).drew⟩
    have t5:decide ((P:Int)<=256)=true:=soA;rw [VK U,WU];clear U;by_cases V:op=0;rotate_left 1
    .have t6:(op==0)=false:=soA;rw [VO V,Wj];clear V;go_enter func91,ntmps91;go_wp2_with fail;refine bR (0::1::2::3::4::5::6::7::8::9::10::11::12::13::14::15::16::17::18::19::20::21::22::23::24::25::26::27::28::29::30::31::32::33::34::35::36::37::38::39::40::41::42::43::44::45::46::47::48::49::50::51::52::53::54::55::56::57::58::59::60::61::62::63::64::65::66::67::68::69::70::71::72::73::74::75::76::77::78::[]) krA krA cdA ?_
     repeat refine gxA ?_
     refine bV rfl rfl rfA (fun K A=> ?_);go_wp2_with fail;refine (cD _ _).mono ?_;rintro e w1 ⟨rfl,rfl⟩;rw [E];go_wp2_with fail;refine A _ _ (VW _ _) ?_;clear A K
     repeat refine gxA ?_
     refine bV rfl rfl rfA (fun K A=> ?_);go_wp2_with fail;refine (cD _ _).mono ?_;rintro e w1 ⟨rfl,rfl⟩;rw [F];go_wp2_with fail;refine A _ _ (VW _ _) ?_;clear A K
     repeat refine gxA ?_
     refine eS ?_;go_wp2_with fail;go_ret;exact ⟨rfl,(VW _ _).drew⟩
    have t6:(op==0)=true:=soA;rw [VK V,WU];clear V;by_cases X:L=0;rotate_left 1
    .have t7:(L==0)=false:=soA;rw [VO X,Wj];clear X;go_enter func91,ntmps91;go_wp2_with fail;refine bR (0::1::2::3::4::5::6::7::8::9::10::11::12::13::14::15::16::17::18::19::20::21::22::23::24::25::26::27::28::29::30::31::32::33::34::35::36::37::38::39::40::41::42::43::44::45::46::47::48::49::50::51::52::53::54::55::56::57::58::59::60::61::62::63::64::65::66::67::68::69::70::71::72::73::74::75::76::77::78::[]) krA krA cdA ?_
     repeat refine gxA ?_
     refine bV rfl rfl rfA (fun K A=> ?_);go_wp2_with fail;refine (cD _ _).mono ?_;rintro e w1 ⟨rfl,rfl⟩;rw [E];go_wp2_with fail;refine A _ _ (VW _ _) ?_;clear A K
     repeat refine gxA ?_
     refine bV rfl rfl rfA (fun K A=> ?_);go_wp2_with fail;refine (cD _ _).mono ?_;rintro e w1 ⟨rfl,rfl⟩;rw [F];go_wp2_with fail;refine A _ _ (VW _ _) ?_;clear A K
     repeat refine gxA ?_
     refine eS ?_;go_wp2_with fail;go_ret;exact ⟨rfl,(VW _ _).drew⟩
    have t7:(L==0)=true:=soA;rw [VK X,WU];clear X;by_cases Y:J=0;rotate_left 1
    .have t8:(J==0)=false:=soA;rw [VO Y,Wj];clear Y;go_enter func91,ntmps91;go_wp2_with fail;refine bR (0::1::2::3::4::5::6::7::8::9::10::11::12::13::14::15::16::17::18::19::20::21::22::23::24::25::26::27::28::29::30::31::32::33::34::35::36::37::38::39::40::41::42::43::44::45::46::47::48::49::50::51::52::53::54::55::56::57::58::59::60::61::62::63::64::65::66::67::68::69::70::71::72::73::74::75::76::77::78::[]) krA krA cdA ?_
     repeat refine gxA ?_
     refine bV rfl rfl rfA (fun K A=> ?_);go_wp2_with fail;refine (cD _ _).mono ?_;rintro e w1 ⟨rfl,rfl⟩;rw [E];go_wp2_with fail;refine A _ _ (VW _ _) ?_;clear A K
     repeat refine gxA ?_
     refine bV rfl rfl rfA (fun K A=> ?_);go_wp2_with fail;refine (cD _ _).mono ?_;rintro e w1 ⟨rfl,rfl⟩;rw [F];go_wp2_with fail;refine A _ _ (VW _ _) ?_;clear A K
     repeat refine gxA ?_
     refine eS ?_;go_wp2_with fail;go_ret;exact ⟨rfl,(VW _ _).drew⟩
    have t8:(J==0)=true:=soA;rw [VK Y,WU];clear Y;by_cases Z:target=0;rotate_left 1
    .have t9:(target==0)=false:=soA;rw [VO Z,Wj];clear Z;go_enter func91,ntmps91;go_wp2_with fail;refine bR (0::1::2::3::4::5::6::7::8::9::10::11::12::13::14::15::16::17::18::19::20::21::22::23::24::25::26::27::28::29::30::31::32::33::34::35::36::37::38::39::40::41::42::43::44::45::46::47::48::49::50::51::52::53::54::55::56::57::58::59::60::61::62::63::64::65::66::67::68::69::70::71::72::73::74::75::76::77::78::[]) krA krA cdA ?_
     repeat refine gxA ?_
     refine bV rfl rfl rfA (fun K A=> ?_);go_wp2_with fail;refine (cD _ _).mono ?_;rintro e w1 ⟨rfl,rfl⟩;rw [E];go_wp2_with fail;refine A _ _ (VW _ _) ?_;clear A K
     repeat refine gxA ?_
     refine bV rfl rfl rfA (fun K A=> ?_);go_wp2_with fail;refine (cD _ _).mono ?_;rintro e w1 ⟨rfl,rfl⟩;rw [F];go_wp2_with fail;refine A _ _ (VW _ _) ?_;clear A K
     repeat refine gxA ?_
     refine eS ?_;go_wp2_with fail;go_ret;exact ⟨rfl,(VW _ _).drew⟩
    have t9:(target==0)=true:=soA;rw [VK Z,WU];clear Z;have t11:IntKind.i64.wrap ((H:Int)+(I:Int))=(H:Int)+(I:Int):=(by rw [VR];omega);have t12:((H:Int)+(I:Int)==0)=decide (H+I=0):=by
     rw [WX,XY,WW];omega
    have t14:(decide (H=0)&&decide (I=0))=decide (H+I=0):=by
     rw [WX];simp;try omega
    have A0:=Hd t14;clear t14;clear z3 z4;go_enter func91,ntmps91;go_wp2_with fail;refine bR (0::1::2::3::4::5::6::7::8::9::10::11::12::13::14::15::16::17::18::19::20::21::22::23::24::25::26::27::28::29::30::31::32::33::34::35::36::37::38::39::40::41::42::43::44::45::46::47::48::49::50::51::52::53::54::55::56::57::58::59::60::61::62::63::64::65::66::67::68::69::70::71::72::73::74::75::76::77::78::[]) krA krA cdA ?_
    repeat refine gxA ?_
    refine bV rfl rfl rfA (fun K A=> ?_);go_wp2_with fail;refine (cD _ _).mono ?_;rintro e w1 ⟨rfl,rfl⟩;rw [E];go_wp2_with fail;refine A _ _ (VW _ _) ?_;clear A K
    repeat refine gxA ?_
    refine bV rfl rfl rfA (fun K A=> ?_);go_wp2_with fail;refine (cD _ _).mono ?_;rintro e w1 ⟨rfl,rfl⟩;rw [F];go_wp2_with fail;refine A _ _ (VW _ _) ?_;clear A K
    repeat refine gxA ?_
    refine eS ?_;go_wp2_with fail;go_ret;exact ⟨by first|rfl|(rw [<-t12];rfl)|(rw [<-A0.out];rfl),(VW _ _).drew⟩
 .have M:nt ⟨d,l,table,fmt,n0,n1,d0,d1,dr,⟨op,L,J,target,m,j⟩⟩ 1=true:=(by unfold nt;simp [g]);rw [M];clear M;have t0:(d !=1)=true:=(by simpa using g);go_enter func91,ntmps91;go_wp2_with fail;go_ret;exact ⟨rfl,VW _ _⟩
section
variable (f1 f2 f3:Fn) (c1 c2 c3:AS) (W:As)
theorem ixf0:(Instr.index 151 (.agg #[.func f1 #[] c1,.func f2 #[] c2,.func f3 #[] c3]) (.int .i64 0)).run prog W= .ok (.func f1 #[] c1) W:=by kernel_rfl
theorem ixf1:(Instr.index 151 (.agg #[.func f1 #[] c1,.func f2 #[] c2,.func f3 #[] c3]) (.int .i64 1)).run prog W= .ok (.func f2 #[] c2) W:=by kernel_rfl
theorem ixf2:(Instr.index 151 (.agg #[.func f1 #[] c1,.func f2 #[] c2,.func f3 #[] c3]) (.int .i64 2)).run prog W= .ok (.func f3 #[] c3) W:=by kernel_rfl
end
def MayR (w:As) (p:ao) (f:Nat) (i:Value) (wr:As):Prop:=
 ∃k:Nat,k+f=3/\i= .int .i64 (k:Int)/\(∀j,j<k->nt p j=true)/\Below w.heap.size w wr
theorem yL (p:ao) (h:aY) (w:As) (R:dp w p h):Calls prog 32 #[dG p h] w fun e w'=>e= .returned (.bool (iE p))/\Below w.heap.size w w':=by
 have V:∀(fn:Fn) (first cap:AS) (w:As),(Instr.makeFunc fn first cap).run prog w= .ok (.func fn first cap) w:=fun _ _ _ _=>rfl;have Y:∀args w,(callFunc 90 args).run prog w= .ok (.enter 90 args) w:=fun _ _=>rfl;have Z:∀args w,(callFunc 91 args).run prog w= .ok (.enter 91 args) w:=fun _ _=>rfl;have b:∀args w,(callFunc 93 args).run prog w= .ok (.enter 93 args) w:=fun _ _=>rfl;have c:=fun f1 f2 f3 c1 c2 c3 W=>ixf0 f1 f2 f3 c1 c2 c3 W;have d:=fun f1 f2 f3 c1 c2 c3 W=>ixf1 f1 f2 f3 c1 c2 c3 W;have g:=fun f1 f2 f3 c1 c2 c3 W=>ixf2 f1 f2 f3 c1 c2 c3 W;rw [aD];go_enter func32,ntmps32;go_upto_region 2 with fail;obtain ⟨X,I⟩:=At w.heap.size;rw [<-I];refine ag (fun W=>Blk W X (af p h).toArray 40/\Blk W (X+1) #[.pointer (some ⟨X,9,none⟩)] 150/\Below w.heap.size w W) ⟨?_,?_,by subst I;exact cL⟩ ?_
 .subst I;exact Blk.new2 w _ _ _
 .subst I;exact Blk.new2' w _ _ _
 rintro S ⟨T,U,G⟩;clear I;go_wp2_with fail;go_loopg [5,11,12,13,14,15,16] 3 (fun f _ i _ _ _ _ _ wr=>MayR S p f i wr)
 case atStart=>exact ⟨0,oA,rfl,fun j L=>by omega,VW _ _⟩
 case round=>
  obtain ⟨k,N,rfl,F,A⟩:=hrel;have D:=Hd N;clear N;have J:=T.old A;have P:=U.old A;have M:dp wr p h:=(R.old G).old A;by_cases l:k<3
  .have h3:k=0\/k=1\/k=2:=oA;rcases h3 with rfl|rfl|rfl
   .have cb:=Gb X p h wr J;go_wp2_with fail;refine cb.mono ?_;rintro e O ⟨rfl,rfl⟩;clear cb;cases C:nt p 0 with
    |false=>
     have E:iE p=false:=(by unfold iE;rw [C];simp);go_wp2_with fail;go_ret;exact ⟨by rw [E];rfl,aa G A⟩
    |true=>
     go_wp2_with fail;go_roundg (gk-1)
     case rel=>
      exact ⟨1,by have:=D.out;omega,gnA,fun j L=>by
       by_cases e:j=0
       .rw [e];exact C
       .exact F j oA,A⟩
     case measure=>have:=D.out;omega
   .have cb:=FZ X (X+1) p h wr J P M;go_wp2_with fail;refine cb.mono ?_;rintro e O ⟨rfl,H⟩;clear cb;cases C:nt p 1 with
    |false=>
     have E:iE p=false:=(by unfold iE;rw [C];simp);go_wp2_with fail;go_ret;exact ⟨by rw [E];rfl,aa G (aa A H)⟩
    |true=>
     go_wp2_with fail;go_roundg (gk-1)
     case rel=>
      exact ⟨2,by have:=D.out;omega,gnA,fun j L=>by
       by_cases e:j=1
       .rw [e];exact C
       .exact F j oA,(aa A H)⟩
     case measure=>have:=D.out;omega
   .have cb:=FY X p h wr J M;go_wp2_with fail;refine cb.mono ?_;rintro e O ⟨rfl,H⟩;clear cb;cases C:nt p 2 with
    |false=>
     have E:iE p=false:=(by unfold iE;rw [C];simp);go_wp2_with fail;go_ret;exact ⟨by rw [E];rfl,aa G (aa A H)⟩
    |true=>
     go_wp2_with fail;go_roundg (gk-1)
     case rel=>
      exact ⟨3,by have:=D.out;omega,gnA,fun j L=>by
       by_cases e:j=2
       .rw [e];exact C
       .exact F j oA,(aa A H)⟩
     case measure=>have:=D.out;omega
  .obtain rfl:k=3:=(by have:=D.out;omega);have E:iE p=true:=(by unfold iE;rw [F 0 oA,F 1 oA,F 2 oA];rfl);go_wp2_with fail;go_ret;exact ⟨by rw [E];rfl,aa G A⟩
theorem Bw (w:As) (p:bF) (h:dy) (d:fb w p h) (j:(bZ p).length<100000000000):
  Calls prog 76 #[bK p h] w fun e w'=>∃a c,e= .returned (.slice a (bZ p).length c)/\Own w' w.heap.size 5 1 a (bZ p).length c ((bZ p).map bv)/\Below w.heap.size w w':=by
 rw [dM];go_enter func76,ntmps76;go_upto_region 1 with fail;obtain ⟨S,F⟩:=At w.heap.size;rw [<-F];refine ag (fun W=>Blk W S (aw p h).toArray 38/\Below w.heap.size w W/\S<W.heap.size) ⟨by rw [F];exact Blk.new w _ _,cL,by rw [F];simp⟩ ?_;rintro A ⟨V,D,X⟩;have l:=Hd F;clear F;go_upto_region 2 with fail;obtain ⟨C,I⟩:=At A.heap.size;rw [<-I];refine ag (fun W=>Blk W C #[.slice none 0 0,.int .i64 0,.bool false] 184/\Below A.heap.size A W) ⟨by rw [I];exact Blk.new A _ _,cL⟩ ?_;rintro J ⟨Y,E⟩;have T:=aa D E;have N:WAt J A.heap.size ⟨C,none,0,[]⟩:=⟨by show A.heap.size<=C;omega,Y,Own.nil _ _ _ _⟩;have hin:fI J A.heap.size p h:=((fI.of d).low T).mono D.size;have L:=GN J A.heap.size ⟨C,none,0,[]⟩ S p h N E.size (V.old E) hin X soA;dsimp only at L;clear I;go_wp2_with fail;refine L.mono ?_;clear L;rintro e m ⟨rfl,G,Z,H⟩;have P:=H.at'.blk.rule;unfold iZ at P;have b:G.c=C:=H.c;rw [b] at P;have O:G.bs=bZ p:=(by rw [Z.out];simp);have U:=D.trans ((H.below N E.size).mono D.size|>(ZH (E.mono D.size)));have R:=Hd O;have M:=H.at'.row;have g:=Hd M;clear O M;go_wp2_with fail;go_ret;refine ⟨G.a,G.cap,by rw [R.out];rfl,?_,U⟩;have:=g.out.lower D.size;rw [R.out] at this;exact this
end
end Go.Proofs.YtioigihakjlopaaGreat

/- Texts put together and cut to what is used: VWakeP, VPrefP, Gei. -/
import Derived.Test.YtioigihakjlopaaGreatVK42
import Derived.Test.YtioigihakjlopaaGreatVK43
namespace Go.Proofs.YtioigihakjlopaaGreat
set_option linter.unusedVariables false
set_option linter.unusedSimpArgs false
section
open Go.RowKit
set_option maxRecDepth 20000
theorem vopenL_seal (m:List UInt8) (g n:Nat) (b:List UInt8) (h:b.length≤65504):openL m g n (sealL m g n b)=(b,0):=by
 have e1:(sealL m g n b).length-32=(stm (ckB m g) (nonB g n) b).length:=by rw [sealL_length,stm_length];omega
 have e2:(sealL m g n b).take ((sealL m g n b).length-32)=stm (ckB m g) (nonB g n) b:=by rw [e1,sealL,List.take_left]
 have e3:(sealL m g n b).drop ((sealL m g n b).length-32)=dgl (markL m g n (stm (ckB m g) (nonB g n) b)):=by rw [e1,sealL,List.drop_left]
 unfold openL
 rw [e2,e3,if_pos ⟨by rw [sealL_length];omega,by rw [sealL_length];omega,rfl⟩,stm_stm]
theorem loadV_length (m:List UInt8) (l:List DeedP) (x:DeedP):(loadV m l x).length=(bytesD x).length+40:=by
 unfold loadV
 rw [List.length_append,be8_length,sealL_length]
 omega
theorem num_load (m:List UInt8) (l:List DeedP) (x:DeedP) (hk:OkD x):numC ⟨loadV m l x,false⟩=(x.game,⟨sealL m x.game.toNat (ofG l x.game).length (bytesD x),false⟩):=ccod_num.back x.game _ false hk.game
theorem game_le {l:List DeedP} {x:DeedP} (hf:followsD l x=true):0≤x.game∧x.game≤(gamesN l:Int):=by
 have h:=follows_game hf
 refine ⟨h.1,?_⟩
 by_cases hk:x.kind=1
 ·have:=h.2.2.2 hk;omega
 ·have:=h.2.2.1 hk;omega
theorem unload_load {m:List UInt8} {l:List DeedP} {x:DeedP} (hm:mayD x=true) (hf:followsD l x=true) (hk:OkD x) (hz:(bytesD x).length≤65504):unloadV m l (loadV m l x)=(x,true):=by
 have hg:=game_le hf
 unfold unloadV
 rw [num_load m l x hk]
 dsimp only
 rw [if_neg (by simp;omega),vopenL_seal m _ _ _ hz,if_neg (by simp),read_back x hk hm]
 simp [hf]
def one1 (nm:Name) (b:List UInt8) (s:Nat):DiskP:=⟨[⟨nm,b,s⟩],false,false,0,[]⟩
section
variable {nm:Name} {b l:List UInt8} {s:Nat}
theorem one_find:findP (one1 nm b s) nm=some ⟨nm,b,s⟩:=by simp [findP,one1]
theorem one_read:readP (one1 nm b s) nm=(b,0):=readP_of rfl one_find
theorem one_append (h:b.length+l.length≤1048576):appendP (one1 nm b s) nm l=(one1 nm (b++l) s,0):=by
 unfold appendP mayP
 rw [one_find,if_neg (by simp [one1])]
 dsimp only
 rw [if_neg (by unfold maxFileN;omega)]
 simp [goesP,updP,updF,one1]
theorem one_sync:syncP (one1 nm b s) nm=(one1 nm b b.length,0):=by
 unfold syncP mayP
 rw [one_find,if_neg (by simp [one1])]
 simp [goesP,updP,updF,one1]
theorem one_cut {k:Nat} (h:k≤b.length):cutP (one1 nm b s) nm (k:Int)=(one1 nm (b.take k) k,0):=by
 unfold cutP mayP
 rw [one_find,if_neg (by simp [one1])]
 dsimp only
 rw [if_neg (by omega)]
 simp [updP,updF,one1]
theorem scan_all {ls:List (List UInt8)} (hf:Fair ls) (hl:ls.length≤4096):scan most (records ls)=(ls,[]):=by
 have hsc:=scan_records most ls [] hf (by rw [most_is];exact hl)
 have e0:scan (most-ls.length) []=([],[]):=scan_stop (scans_short (by simp))
 rw [List.append_nil,e0] at hsc
 simpa using hsc
theorem one_open {ls:List (List UInt8)} (hf:Fair ls) (hl:ls.length≤4096):openE (one1 nm (records ls) s) nm=0∧openD (one1 nm (records ls) s) nm=one1 nm (records ls) (records ls).length∧openB (one1 nm (records ls) s) nm=(ls,[])∧openN (one1 nm (records ls) s) nm=0:=by
 have hB:openB (one1 nm (records ls) s) nm=(ls,[]):=by
  unfold openB
  rw [one_read]
  exact scan_all hf hl
 have hM:openMk (one1 nm (records ls) s) nm=(one1 nm (records ls) s,0):=by
  unfold openMk
  rw [one_read]
  rfl
 have hC:openCut (one1 nm (records ls) s) nm=(one1 nm (records ls) s,0):=by
  unfold openCut
  rw [hB,if_pos (show ([]:List UInt8).length=0 from rfl),hM]
 have hS:openSync (one1 nm (records ls) s) nm=(one1 nm (records ls) (records ls).length,0):=by
  unfold openSync
  rw [hC]
  exact one_sync
 have hE:openE (one1 nm (records ls) s) nm=0:=by
  unfold openE
  rw [hM,hC,hS]
  rfl
 refine ⟨hE,?_,hB,?_⟩
 ·unfold openD
  rw [hM,hC,hS]
  rfl
 ·unfold openN
  rw [if_pos hE,hB]
  rfl
end
theorem new_open {nm:Name} (hn:okName nm=true):openE wk0 nm=0∧openD wk0 nm=one1 nm [] 0∧openB wk0 nm=([],[])∧openN wk0 nm=0:=by
 have hr:readP wk0 nm=([],4):=rfl
 have hB:openB wk0 nm=([],[]):=by
  unfold openB
  rw [hr]
  exact scan_stop (scans_short (by simp))
 have hM:openMk wk0 nm=(one1 nm [] 0,0):=by
  unfold openMk
  rw [hr,if_pos rfl]
  unfold makeP
  rw [if_neg (by simp [wk0]),if_neg (by simp [hn]),if_neg (by simp [findP,wk0]),if_neg (by simp [wk0])]
  rfl
 have hC:openCut wk0 nm=(one1 nm [] 0,0):=by
  unfold openCut
  rw [hB,if_pos (show ([]:List UInt8).length=0 from rfl),hM]
 have hS:openSync wk0 nm=(one1 nm [] 0,0):=by
  unfold openSync
  rw [hC]
  exact one_sync
 have hE:openE wk0 nm=0:=by
  unfold openE
  rw [hM,hC,hS]
  rfl
 refine ⟨hE,?_,hB,?_⟩
 ·unfold openD
  rw [hM,hC,hS]
  rfl
 ·unfold openN
  rw [if_pos hE,hB]
  rfl
theorem new_vopen {nm:Name} (hn:okName nm=true) (m:List UInt8):vopE wk0 nm m=0∧vopD wk0 nm m=one1 nm [] 0∧vopL wk0 nm m=[]∧vopN wk0 nm m=0∧vopLs wk0 nm m=[]:=by
 obtain ⟨h1,h2,h3,h4⟩:=new_open hn
 have hL:vopL wk0 nm m=[]:=by unfold vopL;rw [h3];rfl
 have hF:vopFull wk0 nm m=true:=by unfold vopFull;rw [hL,h3];rfl
 refine ⟨?_,?_,hL,?_,?_⟩
 ·unfold vopE;rw [h1,if_neg (by simp),if_pos hF]
 ·unfold vopD;rw [h1,if_neg (by simp),if_pos hF,h2]
 ·unfold vopN;rw [if_pos hF,h4]
 ·unfold vopLs;rw [h3];simp
theorem one_put {nm:Name} {b:List UInt8} {s:Nat} {V:VaultR} {x:DeedP} (hnm:V.R.nm=nm) (hd:V.down=false) (hm:mayD x=true) (hf:followsD V.l x=true) (hz:(bytesD x).length≤65000) (hl:V.R.ls.length<4096) (hb:b.length+(bytesD x).length+48≤1048576):
  putE (one1 nm b s) V x=0∧putD (one1 nm b s) V x=one1 nm (b++record (loadV V.m V.l x)) (b++record (loadV V.m V.l x)).length∧putLs (one1 nm b s) V x=V.R.ls++ [loadV V.m V.l x]∧putDn (one1 nm b s) V x=false:=by
 have hlen:=loadV_length V.m V.l x
 have hr:recErr (loadV V.m V.l x).length=0:=by unfold recErr;rw [if_neg (by omega),if_neg (by omega)]
 have happ:=one_append (nm:=nm) (b:=b) (s:=s) (l:=record (loadV V.m V.l x)) (by rw [record_length];omega)
 have hA:putA (one1 nm b s) V x=0:=by
  unfold putA lappE
  rw [hr,if_neg (by simp),if_neg (by omega),hnm,happ]
 have hD:lappD (one1 nm b s) V.R (loadV V.m V.l x)=one1 nm (b++record (loadV V.m V.l x)) s:=by
  unfold lappD
  rw [hr,if_neg (by simp),if_neg (by omega),hnm,happ]
 have hS:putS (one1 nm b s) V x=(one1 nm (b++record (loadV V.m V.l x)) (b++record (loadV V.m V.l x)).length,0):=by
  unfold putS
  rw [hD,hnm]
  exact one_sync
 have h1:¬V.down=true:=by simp [hd]
 have h2:¬putOk V x=false:=by unfold putOk;simp [hm,hf]
 have h3:¬65504<(bytesD x).length:=by omega
 have h4:¬putA (one1 nm b s) V x≠0:=by simp [hA]
 refine ⟨?_,?_,?_,?_⟩
 ·unfold putE;rw [if_neg h1,if_neg h2,if_neg h3,if_neg h4,hS]
 ·unfold putD;rw [if_neg h1,if_neg h2,if_neg h3,if_neg h4,hS]
 ·unfold putLs;rw [if_neg h1,if_neg h2,if_neg h3,if_neg h4]
 ·unfold putDn;rw [if_neg h1,if_neg h2,if_neg h3,if_neg h4,hS];rfl
def nmJ:Name:=⟨#[106,111,117,114,110,97,108]⟩
def begD:DeedP:=⟨1,0,0,emN,⟨#[97,110,110]⟩,⟨#[98,111,98]⟩,[1,2],[3],[5],zeroA⟩
def badDd:DeedP:=⟨2,5,0,emN,emN,emN,[],[],[],zeroA⟩
def givA:ActionP:={zeroA with op:=4}
def givD:DeedP:=⟨2,0,0,emN,emN,emN,[],[],[],givA⟩
theorem okJ:okName nmJ=true:=by decide
theorem may_beg:mayD begD=true:=by decide+kernel
theorem may_giv:mayD givD=true:=by decide+kernel
theorem fol_beg:followsD [] begD=true:=by decide
theorem fol_bad:followsD [begD] badDd=false:=by decide
theorem fol_giv:followsD [begD] givD=true:=by decide
theorem okA_zero:okAction zeroA:=by
 refine ⟨?_,?_,?_,?_,?_,?_⟩
 all_goals first|(unfold wf8 wf64;decide)|(unfold wf8;decide)|(unfold wf64;decide)|(refine ⟨fun x hx=> ?_,?_⟩<;>first|(cases hx;done)|(unfold wf64;decide)|decide)
theorem okL_small {l:List Int} (h:∀x∈l,0≤x∧x≤1000) (hl:l.length≤1000):okL l:=by
 refine ⟨fun x hx=> ?_,wf64_small (by omega)⟩
 have:=h x hx
 obtain ⟨n,rfl⟩:∃n:Nat,x=(n:Int):=⟨x.toNat,by omega⟩
 exact wf64_small (by omega)
theorem ok_beg:OkD begD:=by
 refine ⟨by unfold wf8;decide,by unfold wf64;decide,by unfold wf64;decide,by unfold strZ;decide,by unfold strZ;decide,by unfold strZ;decide,okL_small (by decide) (by decide),okL_small (by decide) (by decide),okL_small (by decide) (by decide),okA_zero⟩
theorem ok_giv:OkD givD:=by
 have h:=okA_zero
 refine ⟨by unfold wf8;decide,by unfold wf64;decide,by unfold wf64;decide,by unfold strZ;decide,by unfold strZ;decide,by unfold strZ;decide,okL_small (by decide) (by decide),okL_small (by decide) (by decide),okL_small (by decide) (by decide),?_⟩
 exact ⟨by unfold wf8;decide,h.2⟩
theorem bytes_beg:bytesD begD=vb1:=by decide+kernel
theorem len_giv:(bytesD givD).length≤100:=by decide+kernel
def L1:List UInt8:=loadV vmast [] begD
def L2:List UInt8:=loadV vmast [begD] givD
theorem L1_len:L1.length=143:=by unfold L1;rw [loadV_length,bytes_beg];rfl
theorem other_fails:unloadV voth [] L1=(zeroD,false):=by
 have hop:openL voth 0 0 (sealL vmast 0 0 vb1)=([],60):=by
  have hl:vb1.length=103:=rfl
  have hsl:(sealL vmast 0 0 vb1).length=135:=by rw [sealL_length,hl]
  have e1:(sealL vmast 0 0 vb1).length-32=(stm (ckB vmast 0) (nonB 0 0) vb1).length:=by rw [sealL_length,stm_length];omega
  have e2:(sealL vmast 0 0 vb1).take ((sealL vmast 0 0 vb1).length-32)=vc1:=by rw [e1,sealL,List.take_left,v_stm]
  have e3:(sealL vmast 0 0 vb1).drop ((sealL vmast 0 0 vb1).length-32)=dgl (markL vmast 0 0 vc1):=by rw [e1,sealL,List.drop_left,v_stm]
  unfold openL
  rw [e2,e3,if_neg]
  rintro ⟨_,_,h⟩
  have h0:=congrArg (fun l=>l.getD 0 0) h
  unfold markL at h0
  rw [v_tk,v_tko] at h0
  have h1:dgb (hout vtk (be64 0++be64 0++vc1)) 0=dgb (hout vtko (be64 0++be64 0++vc1)) 0:=by simpa [dgl] using h0
  rw [v_mark,v_marko] at h1
  exact absurd h1 (by decide)
 have hn:numC ⟨L1,false⟩=(0,⟨sealL vmast 0 0 vb1,false⟩):=by
  have h:=num_load vmast [] begD ok_beg
  rw [bytes_beg] at h
  exact h
 generalize sealL vmast 0 0 vb1=S at hop hn
 have hop':openL voth (Int.toNat 0) (ofG ([]:List DeedP) 0).length S=([],60):=hop
 unfold unloadV
 rw [hn]
 dsimp only
 rw [if_neg (by decide)]
 first
  |rw [hop']
  |rw [hop]
 rw [if_pos (by decide)]
theorem L2_len:L2.length=(bytesD givD).length+40:=loadV_length _ _ _
theorem wk_fair:Fair [L1,L2]:=by
 intro l hl
 have h1:=L1_len
 have h2:=L2_len
 have h3:=len_giv
 rcases List.mem_cons.1 hl with rfl|hl
 ·omega
 ·rw [List.mem_singleton.1 hl];omega
theorem wk_scan:scanV vmast [] [L1,L2]=[begD,givD]:=by
 have h1:unloadV vmast [] L1=(begD,true):=unload_load may_beg fol_beg ok_beg (by rw [bytes_beg];decide)
 have h2:unloadV vmast [begD] L2=(givD,true):=unload_load may_giv fol_giv ok_giv (by have:=len_giv;omega)
 rw [scanV,h1,if_pos rfl,List.nil_append,scanV,h2,if_pos rfl]
 rfl
def wkD:DiskP:=one1 nmJ (records [L1,L2]) (records [L1,L2]).length
theorem wk_right:vopE wkD nmJ vmast=0∧vopL wkD nmJ vmast=[begD,givD]∧vopN wkD nmJ vmast=0:=by
 obtain ⟨h1,h2,h3,h4⟩:=one_open (nm:=nmJ) (s:=(records [L1,L2]).length) wk_fair (by decide)
 have hL:vopL wkD nmJ vmast=[begD,givD]:=by unfold vopL wkD;rw [h3];exact wk_scan
 have hF:vopFull wkD nmJ vmast=true:=by unfold vopFull;rw [hL];unfold wkD;rw [h3];rfl
 refine ⟨?_,hL,?_⟩
 ·unfold vopE;rw [hF];unfold wkD;rw [h1,if_neg (by simp),if_pos rfl]
 ·unfold vopN;rw [hF,if_pos rfl];exact h4
theorem wk_wrong:vopE wkD nmJ voth=0∧vopL wkD nmJ voth=[]∧0<vopN wkD nmJ voth:=by
 obtain ⟨h1,h2,h3,h4⟩:=one_open (nm:=nmJ) (s:=(records [L1,L2]).length) wk_fair (by decide)
 have hL:vopL wkD nmJ voth=[]:=by unfold vopL wkD;rw [h3];show scanV voth [] [L1,L2]=[];rw [scanV,other_fails,if_neg (by simp)]
 have hF:vopFull wkD nmJ voth=false:=by unfold vopFull;rw [hL];unfold wkD;rw [h3];rfl
 have hAt:vopAt wkD nmJ voth=0:=by unfold vopAt;rw [hL];rfl
 have hcut:vopCut wkD nmJ voth=(one1 nmJ [] 0,0):=by
  unfold vopCut
  rw [hAt]
  show cutP (openD (one1 nmJ (records [L1,L2]) (records [L1,L2]).length) nmJ) nmJ ((0:Nat):Int)=_
  rw [h2,one_cut (Nat.zero_le _)]
  rfl
 obtain ⟨g1,g2,g3,g4⟩:=one_open (nm:=nmJ) (s:=0) (ls:=[]) (fun x hx=>by cases hx) (by decide)
 refine ⟨?_,hL,?_⟩
 ·unfold vopE
  rw [hF,hcut]
  unfold wkD
  rw [h1,if_neg (by simp),if_neg (by simp),if_neg (by simp)]
  exact g1
 ·unfold vopN
  rw [hF,hAt,if_neg (by simp)]
  have e:(records (openB wkD nmJ).1).length=151+(8+L2.length):=by
   unfold wkD
   rw [h3]
   show (records [L1,L2]).length=_
   simp [records,record_length,L1_len]
  omega
theorem wk_crash:(openP (crashAll wkD []).1).1=wkD:=by
 unfold wkD one1 crashAll openP crashP crashF
 simp [keepN]
def loadsFrom (m:List UInt8):List DeedP→List DeedP→List (List UInt8)
 |_,[]=> []
 |l0,x::r=>loadV m l0 x::loadsFrom m (l0++ [x]) r
def loadsOf (m:List UInt8) (l:List DeedP):List (List UInt8):=loadsFrom m [] l
theorem loadsFrom_snoc (m:List UInt8) (x:DeedP):∀(r l0:List DeedP),loadsFrom m l0 (r++ [x])=loadsFrom m l0 r++ [loadV m (l0++r) x]
 | [],l0=>by simp [loadsFrom]
 |y::r,l0=>by
  rw [List.cons_append,loadsFrom,loadsFrom_snoc m x r (l0++ [y]),loadsFrom]
  simp
theorem loadsOf_snoc (m:List UInt8) (l:List DeedP) (x:DeedP):loadsOf m (l++ [x])=loadsOf m l++ [loadV m l x]:=by
 unfold loadsOf
 rw [loadsFrom_snoc,List.nil_append]
theorem loadsFrom_length (m:List UInt8):∀(r l0:List DeedP),(loadsFrom m l0 r).length=r.length
 | [],_=>rfl
 |x::r,l0=>by rw [loadsFrom,List.length_cons,loadsFrom_length m r,List.length_cons]
theorem loadsOf_length (m:List UInt8) (l:List DeedP):(loadsOf m l).length=l.length:=loadsFrom_length m l []
theorem loads_fair (m:List UInt8):∀(r l0:List DeedP),(∀x∈r,(bytesD x).length≤30000)→Fair (loadsFrom m l0 r)
 | [],_,_=>fun x hx=>by cases hx
 |x::r,l0,h=>fun y hy=>by
  rcases List.mem_cons.1 hy with rfl|hy
  ·have h1:=loadV_length m l0 x
   have h2:=h x List.mem_cons_self
   omega
  ·exact loads_fair m r (l0++ [x]) (fun z hz=>h z (List.mem_cons_of_mem _ hz)) y hy
theorem scan_snoc (m L:List UInt8):∀(ls:List (List UInt8)) (l0:List DeedP),(scanV m l0 ls).length=l0.length+ls.length→scanV m l0 (ls++ [L])=scanV m (scanV m l0 ls) [L]
 | [],_,_=>rfl
 |x::r,l0,h=>by
  have e1:∀r',scanV m l0 (x::r')=if (unloadV m l0 x).2 then scanV m (l0++ [(unloadV m l0 x).1]) r' else l0:=fun r'=>by rw [scanV]
  rw [List.cons_append,e1,e1]
  rw [e1] at h
  by_cases hu:(unloadV m l0 x).2=true
  ·rw [if_pos hu] at h
   rw [if_pos hu,if_pos hu]
   refine scan_snoc m L r _ ?_
   rw [h]
   simp
   omega
  ·rw [if_neg hu] at h
   simp at h
theorem scan_loads (m:List UInt8) {l:List DeedP} (h:GoodD l) (hz:∀x∈l,(bytesD x).length≤30000):scanV m [] (loadsOf m l)=l:=by
 induction h with
 |nil=>rfl
 | @snoc l x h hm hf hk ih=>
  have ih:=ih fun y hy=>hz y (List.mem_append_left _ hy)
  rw [loadsOf_snoc,scan_snoc m _ _ _ (by rw [ih,loadsOf_length,List.length_nil,Nat.zero_add]),ih,scanV,unload_load hm hf hk (by have:=hz x (by simp);omega),if_pos rfl]
  rfl
def onG (b:List UInt8) (s:Nat) (lf:Int) (pl:PlanP):DiskP:=⟨[⟨nmJ,b,s⟩],false,false,lf,pl⟩
section
variable {b:List UInt8} {s:Nat} {lf:Int} {pl:PlanP}
theorem g_find:findP (onG b s lf pl) nmJ=some ⟨nmJ,b,s⟩:=by simp [findP,onG]
theorem g_read:readP (onG b s lf pl) nmJ=(b,0):=readP_of rfl g_find
theorem g_sync:syncP (onG b s lf pl) nmJ=(onG b b.length lf pl,0):=by
 unfold syncP mayP
 rw [g_find,if_neg (by simp [onG])]
 simp [goesP,updP,updF,onG]
theorem g_cut {k:Nat} (h:k≤b.length):cutP (onG b s lf pl) nmJ (k:Int)=(onG (b.take k) k lf pl,0):=by
 unfold cutP mayP
 rw [g_find,if_neg (by simp [onG])]
 dsimp only
 rw [if_neg (by omega)]
 simp [updP,updF,onG]
theorem g_open {ls:List (List UInt8)} {rest:List UInt8} (h:scan most b=(ls,rest)):openE (onG b s lf pl) nmJ=0∧openB (onG b s lf pl) nmJ=(ls,rest)∧openN (onG b s lf pl) nmJ=rest.length∧
  openD (onG b s lf pl) nmJ=onG (b.take (b.length-rest.length)) (b.length-rest.length) lf pl:=by
 have hB:openB (onG b s lf pl) nmJ=(ls,rest):=by unfold openB;rw [g_read];exact h
 have hM:openMk (onG b s lf pl) nmJ=(onG b s lf pl,0):=by unfold openMk;rw [g_read];rfl
 have hC:openCut (onG b s lf pl) nmJ=(if rest.length=0 then onG b s lf pl else onG (b.take (b.length-rest.length)) (b.length-rest.length) lf pl,0):=by
  unfold openCut
  rw [hB,hM,g_read]
  by_cases h0:rest.length=0
  ·rw [if_pos h0,if_pos h0]
  ·rw [if_neg h0,if_neg h0]
   exact g_cut (Nat.sub_le _ _)
 have hS:openSync (onG b s lf pl) nmJ=(onG (b.take (b.length-rest.length)) (b.length-rest.length) lf pl,0):=by
  unfold openSync
  rw [hC]
  by_cases h0:rest.length=0
  ·simp only [if_pos h0,g_sync]
   rw [h0,Nat.sub_zero,List.take_length]
  ·simp only [if_neg h0,g_sync]
   rw [show (b.take (b.length-rest.length)).length=b.length-rest.length by rw [List.length_take];omega]
 have hE:openE (onG b s lf pl) nmJ=0:=by rw [(openE_sync (by rw [hM]) (by rw [hC])).1,hS]
 exact ⟨hE,hB,by unfold openN;rw [if_pos hE,hB],by rw [(openE_sync (by rw [hM]) (by rw [hC])).2,hS]⟩
end
theorem g_vopen {m:List UInt8} {l:List DeedP} {c k:Nat} {lf:Int} {pl:PlanP} (hk:k≤l.length) (hz:∀x∈l,(bytesD x).length≤30000) (hl:l.length≤4096) (hsc:scanV m [] ((loadsOf m l).take k)=l.take k)
  (h1:(records ((loadsOf m l).take k)).length≤c) (h2:k<l.length→c<(records ((loadsOf m l).take (k+1))).length) (h3:c≤(records (loadsOf m l)).length):
  vopE (onG ((records (loadsOf m l)).take c) c lf pl) nmJ m=0∧vopL (onG ((records (loadsOf m l)).take c) c lf pl) nmJ m=l.take k∧
   vopD (onG ((records (loadsOf m l)).take c) c lf pl) nmJ m=onG (records ((loadsOf m l).take k)) (records ((loadsOf m l).take k)).length lf pl∧(c=(records ((loadsOf m l).take k)).length→vopN (onG ((records (loadsOf m l)).take c) c lf pl) nmJ m=0):=by
 have hlen:=loadsOf_length m l
 have hs:=scan_cut most (loadsOf m l) c k (loads_fair m l [] hz) (by rw [most_is,hlen];exact hl) (by omega) h1 (by rw [hlen];exact h2)
 obtain ⟨q1,q2,q3,q4⟩:=g_open (s:=c) (lf:=lf) (pl:=pl) hs
 have hlt:((records (loadsOf m l)).take c).length=c:=by rw [List.length_take];omega
 have hrl:(((records (loadsOf m l)).take c).drop (records ((loadsOf m l).take k)).length).length=c-(records ((loadsOf m l).take k)).length:=by rw [List.length_drop,hlt]
 have hL:vopL (onG ((records (loadsOf m l)).take c) c lf pl) nmJ m=l.take k:=by unfold vopL;rw [q2];exact hsc
 have hF:vopFull (onG ((records (loadsOf m l)).take c) c lf pl) nmJ m=true:=by
  unfold vopFull
  rw [hL,q2,decide_eq_true_iff,List.length_take,List.length_take,hlen]
 refine ⟨by unfold vopE;rw [hF,q1,if_neg (by simp),if_pos rfl],hL,?_,fun hc=> ?_⟩
 ·unfold vopD
  rw [hF,q1,if_neg (by simp),if_pos rfl,q4,hrl,hlt,show c-(c-(records ((loadsOf m l).take k)).length)=(records ((loadsOf m l).take k)).length by omega,List.take_take,Nat.min_eq_left h1]
  have e0:records (loadsOf m l)=records ((loadsOf m l).take k)++records ((loadsOf m l).drop k):=by rw [←records_append,List.take_append_drop]
  have e1:(records (loadsOf m l)).take (records ((loadsOf m l).take k)).length=records ((loadsOf m l).take k):=by
   conv=>lhs;rw [e0]
   rw [List.take_left]
  rw [e1]
 ·unfold vopN
  rw [hF,if_pos rfl,q3,hrl]
  omega
structure PInv (p:DiskP) (V:VaultR) (last:List DeedP):Prop where
 nm:V.R.nm=nmJ
 sz:∀x∈V.l,(bytesD x).length≤30000
 st:(V.down=false∧last=[]∧V.R.ls=loadsOf V.m V.l∧∃lf pl,p=⟨[⟨nmJ,records (loadsOf V.m V.l),(records (loadsOf V.m V.l)).length⟩],false,true,lf,pl⟩)∨
  (V.down=true∧∃x c lf pl,last=[x]∧mayD x=true∧followsD V.l x=true∧OkD x∧(bytesD x).length≤30000∧(records (loadsOf V.m V.l)).length≤c∧c≤(records (loadsOf V.m V.l++ [loadV V.m V.l x])).length∧
   p=⟨[⟨nmJ,(records (loadsOf V.m V.l++ [loadV V.m V.l x])).take c,c⟩],true,false,lf,pl⟩)
theorem PInv.put {p:DiskP} {V V':VaultR} {last:List DeedP} {x:DeedP} (h:PInv p V last) (hk:OkD x) (hz:(bytesD x).length≤30000) (hlen:V.l.length≤4000)
  (hm:V'.m=V.m) (hl:V'.l=if putE p V x=0 then V.l++ [x] else V.l) (hls:V'.R.ls=putLs p V x) (hnm:V'.R.nm=V.R.nm) (hdn:V'.down=putDn p V x):
  PInv (putD p V x) V' (if putE p V x=5∧last=[] then [x] else last):=by
 have same:putE p V x≠0→putE p V x≠5∨last≠ []→putLs p V x=V.R.ls→putDn p V x=V.down→putD p V x=p→PInv (putD p V x) V' (if putE p V x=5∧last=[] then [x] else last):=fun e0 e5 q1 q2 q3=>by
  rw [if_neg e0] at hl
  rw [if_neg (by rintro ⟨a,b⟩;exact e5.elim (fun h=>h a) (fun h=>h b)),q3]
  refine ⟨hnm.trans h.nm,by rw [hl];exact h.sz,?_⟩
  rw [hdn,q2,hls,q1,hm,hl]
  exact h.st
 rcases h.st with ⟨hd,hlast,hlo,lf,pl,hp⟩|⟨hd,y,c,lf,pl,hlast,_⟩
 ·have nd:¬V.down=true:=by rw [hd];simp
  by_cases hok:putOk V x=false
  ·have e:putE p V x=2:=by unfold putE;rw [if_neg nd,if_pos hok]
   exact same (by rw [e];decide) (.inl (by rw [e];decide)) (by unfold putLs;rw [if_neg nd,if_pos hok]) (by unfold putDn;rw [if_neg nd,if_pos hok,hd]) (by unfold putD;rw [if_neg nd,if_pos hok])
  have nb:¬65504<(bytesD x).length:=by omega
  have hL:=loadV_length V.m V.l x
  have hrec:recErr (loadV V.m V.l x).length=0:=by unfold recErr;rw [if_neg (by omega),if_neg (by omega)]
  have hcnt:¬4096≤V.R.ls.length:=by rw [hlo,loadsOf_length];omega
  obtain ⟨hmay,hfol⟩:mayD x=true∧followsD V.l x=true:=by
   have:=hok
   unfold putOk at this
   simpa using this
  generalize hLd:loadV V.m V.l x=L at*
  have hA:putA p V x=(appendP p nmJ (record L)).2:=by unfold putA lappE;rw [hLd,hrec,if_neg (by simp),if_neg hcnt,h.nm]
  have hD:lappD p V.R L=(appendP p nmJ (record L)).1:=by unfold lappD;rw [hrec,if_neg (by simp),if_neg hcnt,h.nm]
  obtain ⟨bs,hbs⟩:∃bs,loadsOf V.m V.l=bs:=⟨_,rfl⟩
  rw [hbs] at hp hlo
  have hfind:findP p nmJ=some ⟨nmJ,records bs,(records bs).length⟩:=by rw [hp];simp [findP]
  have happ:appendP p nmJ (record L)=if maxFileN-(records bs).length<(record L).length then (p,3) else goesP (updP p nmJ fun f=>{f with b:=f.b++record L}):=by
   unfold appendP mayP
   rw [hfind,if_neg (by rw [hp];simp)]
  have hupd:updP p nmJ (fun f=>{f with b:=f.b++record L})=⟨[⟨nmJ,records (bs++ [L]),(records bs).length⟩],false,true,lf,pl⟩:=by
   rw [hp,records_snoc];simp [updP,updF]
  rw [hupd] at happ
  have hge:(records bs).length≤(records (bs++ [L])).length:=by rw [records_snoc,List.length_append];omega
  have crash:∀lf',(putE p V x=5)→putDn p V x=true→putD p V x=crashP ⟨[⟨nmJ,records (bs++ [L]),(records bs).length⟩],false,true,lf',pl⟩ pl→PInv (putD p V x) V' (if putE p V x=5∧last=[] then [x] else last):=fun lf' e q1 q3=>by
   rw [if_neg (by rw [e];decide)] at hl
   rw [if_pos ⟨e,hlast⟩,q3]
   refine ⟨hnm.trans h.nm,by rw [hl];exact h.sz,.inr ⟨hdn.trans q1,x,(records bs).length+keepN pl ⟨nmJ,records (bs++ [L]),(records bs).length⟩,lf',pl,rfl,hmay,by rw [hl];exact hfol,hk,hz,?_,?_,?_⟩⟩
   ·rw [hm,hl,hbs];omega
   ·rw [hm,hl,hbs,hLd]
    exact keepN_le pl ⟨nmJ,records (bs++ [L]),(records bs).length⟩ hge
   ·rw [hm,hl,hbs,hLd]
    simp [crashP,crashF]
  by_cases hfull:maxFileN-(records bs).length<(record L).length
  ·rw [if_pos hfull] at happ
   have hA3:putA p V x=3:=by rw [hA,happ]
   have e:putE p V x=3:=by unfold putE;rw [if_neg nd,if_neg hok,if_neg nb,if_pos (by rw [hA3];decide),hA3]
   refine same (by rw [e];decide) (.inl (by rw [e];decide)) (by unfold putLs;rw [if_neg nd,if_neg hok,if_neg nb,if_pos (by rw [hA3];decide)]) ?_ ?_
   ·unfold putDn;rw [if_neg nd,if_neg hok,if_neg nb,if_pos (by rw [hA3];decide),hA3,hd];rfl
   ·unfold putD;rw [if_neg nd,if_neg hok,if_neg nb,if_pos (by rw [hA3];decide),hLd,hD,happ]
  ·rw [if_neg hfull] at happ
   by_cases hlf:0<lf
   ·have hg:appendP p nmJ (record L)=(⟨[⟨nmJ,records (bs++ [L]),(records bs).length⟩],false,true,lf-1,pl⟩,0):=by rw [happ];simp [goesP,hlf]
    have hA0:putA p V x=0:=by rw [hA,hg]
    have hna:¬putA p V x≠0:=by rw [hA0];simp
    have hS:putS p V x=syncP ⟨[⟨nmJ,records (bs++ [L]),(records bs).length⟩],false,true,lf-1,pl⟩ nmJ:=by unfold putS;rw [hLd,hD,hg,h.nm]
    by_cases hlf2:0<lf-1
    ·have hS2:putS p V x=(⟨[⟨nmJ,records (bs++ [L]),(records (bs++ [L])).length⟩],false,true,lf-1-1,pl⟩,0):=by
      rw [hS]
      have hlf3:1<lf:=by omega
      simp [syncP,mayP,findP,goesP,hlf3,updP,updF]
     have e:putE p V x=0:=by unfold putE;rw [if_neg nd,if_neg hok,if_neg nb,if_neg hna,hS2]
     rw [if_pos e] at hl
     rw [if_neg (by rw [e];simp)]
     have hls2:V'.R.ls=V.R.ls++ [L]:=by rw [hls];unfold putLs;rw [if_neg nd,if_neg hok,if_neg nb,if_neg hna,hLd]
     refine ⟨hnm.trans h.nm,fun y hy=> ?_,.inl ⟨?_,hlast,by rw [hls2,hm,hl,loadsOf_snoc,hbs,hLd,hlo],lf-1-1,pl,?_⟩⟩
     ·rw [hl] at hy
      rcases List.mem_append.1 hy with hy|hy
      ·exact h.sz y hy
      ·rw [List.mem_singleton.1 hy];exact hz
     ·rw [hdn];unfold putDn;rw [if_neg nd,if_neg hok,if_neg nb,if_neg hna,hS2];rfl
     ·rw [hm,hl,loadsOf_snoc,hbs,hLd];unfold putD;rw [if_neg nd,if_neg hok,if_neg nb,if_neg hna,hS2]
    ·have hS2:putS p V x=(crashP ⟨[⟨nmJ,records (bs++ [L]),(records bs).length⟩],false,true,lf-1,pl⟩ pl,5):=by
      rw [hS]
      have hlf3:¬1<lf:=by omega
      simp [syncP,mayP,findP,goesP,hlf3]
     have e:putE p V x=5:=by unfold putE;rw [if_neg nd,if_neg hok,if_neg nb,if_neg hna,hS2]
     refine crash (lf-1) e ?_ ?_
     ·unfold putDn;rw [if_neg nd,if_neg hok,if_neg nb,if_neg hna,hS2];rfl
     ·unfold putD;rw [if_neg nd,if_neg hok,if_neg nb,if_neg hna,hS2]
   ·have hg:appendP p nmJ (record L)=(crashP ⟨[⟨nmJ,records (bs++ [L]),(records bs).length⟩],false,true,lf,pl⟩ pl,5):=by rw [happ];simp [goesP,hlf]
    have hA5:putA p V x=5:=by rw [hA,hg]
    have hna:putA p V x≠0:=by rw [hA5];decide
    have e:putE p V x=5:=by unfold putE;rw [if_neg nd,if_neg hok,if_neg nb,if_pos hna,hA5]
    refine crash lf e ?_ ?_
    ·unfold putDn;rw [if_neg nd,if_neg hok,if_neg nb,if_pos hna,hA5];rfl
    ·unfold putD;rw [if_neg nd,if_neg hok,if_neg nb,if_pos hna,hLd,hD,hg]
 ·have e:putE p V x=5:=by unfold putE;rw [if_pos hd]
  exact same (by rw [e];decide) (.inr (by rw [hlast];simp)) (by unfold putLs;rw [if_pos hd]) (by unfold putDn;rw [if_pos hd,hd]) (by unfold putD;rw [if_pos hd])
end
section
open Go.RowKit
def idR (ops:Array Oper):Nat→List Oper→Bool
 |_,[]=>true
 |k,o::rest=>o.after.toList.all (fun e=> !Region.binds .any e||decide (e.on<k))&&
   (if loudOp o.op then rest.all (fun j=>j.after.toList.any fun e=>Region.binds .any e&&decide (k≤e.on))
    else rest.all (fun j=>j.after.toList.any (fun e=>Region.binds .any e&&e.on==k)||o.apart ops j))&&idR ops (k+1) rest
def FirstK (n k:Nat) (listed:Array Bool):Prop:=listed.size=n∧∀j,j<n→listed[j]? =some (decide (j<k))
theorem FirstK.zero (n:Nat):FirstK n 0 (Array.replicate n false):=⟨by simp,fun j hj=>by simp [hj]⟩
theorem FirstK.next {n k:Nat} {listed:Array Bool} (h:FirstK n k listed) (hk:k<n):FirstK n (k+1) (listed.setIfInBounds k true):=by
 refine ⟨by simp [h.1],fun j hj=> ?_⟩
 rw [Array.getElem?_setIfInBounds]
 by_cases e:k=j
 ·subst e;simp [h.1,hk]
 ·rw [if_neg e,h.2 j hj]
  congr 1
  rw [Bool.eq_iff_iff]
  simp
  omega
theorem FirstK.getT {n k:Nat} {listed:Array Bool} (h:FirstK n k listed) {j:Nat} (hj:j<n) (d:Bool):listed.getD j d=decide (j<k):=by
 rw [Array.getD_eq_getD_getElem?,h.2 j hj];rfl
theorem FirstK.getF {n k:Nat} {listed:Array Bool} (h:FirstK n k listed) {j:Nat} (hj:¬j<k):listed.getD j false=false:=by
 by_cases hn:j<n
 ·rw [h.getT hn];simp [hj]
 ·rw [Array.getD_eq_getD_getElem?,Array.getElem?_eq_none (by rw [h.1];omega)];rfl
theorem ready_iff {ops:Array Oper} {k:Nat} {listed:Array Bool} (h:FirstK ops.size k listed) (hk:k≤ops.size) {j:Nat}:j∈Region.ready .any ops listed↔k≤j∧∃o,ops[j]? =some o∧∀e∈o.after,Region.binds .any e=true→e.on<k:=by
 rw [mem_ready]
 constructor
 ·rintro ⟨h1,o,ho,h2⟩
  have hj:j<ops.size:=(Array.getElem?_eq_some_iff.1 ho).1
  rw [h.getT hj] at h1
  refine ⟨by simpa using h1,o,ho,fun e he hb=> ?_⟩
  have h3:=h2 e he hb
  by_cases hn:e.on<k
  ·exact hn
  ·rw [h.getF hn] at h3;cases h3
 ·rintro ⟨h1,o,ho,h2⟩
  have hj:j<ops.size:=(Array.getElem?_eq_some_iff.1 ho).1
  refine ⟨by rw [h.getT hj];simpa using h1,o,ho,fun e he hb=> ?_⟩
  have h3:=h2 e he hb
  rw [h.getT (by omega)]
  simpa using h3
theorem ready_one {ops:Array Oper} {k:Nat} {listed:Array Bool} (hk:k<ops.size) (h:∀j,j∈Region.ready .any ops listed↔j=k):Region.ready .any ops listed=[k]:=by
 unfold Region.ready at h⊢
 generalize hp:(fun i=> !listed.getD i true&&((ops[i]?).map (·.after.all fun e=> !Region.binds .any e||listed.getD e.on false)).getD false)=p at h⊢
 have e:(List.range ops.size).filter p=(List.range ops.size).filter (·==k):=by
  apply List.filter_congr
  intro x hx
  have h2:=h x
  rw [List.mem_filter] at h2
  rw [Bool.eq_iff_iff,beq_iff_eq]
  exact ⟨fun q=>h2.1 ⟨hx,q⟩,fun q=>(h2.2 q).2⟩
 rw [e,List.filter_beq,List.Nodup.count List.nodup_range,if_pos (List.mem_range.2 hk)]
 rfl
theorem idR_ord {ops:Array Oper}:∀(rest:List Oper) (k:Nat) (listed:Array Bool),FirstK ops.size k listed→ops.toList.drop k=rest→k+rest.length=ops.size→idR ops k rest=true→ordR .any ops (List.range' k rest.length) listed=true
 | [],k,listed,hF,hd,hl,h=>by
  simp only [List.length_nil,List.range'_zero,ordR]
  rw [List.isEmpty_iff,List.eq_nil_iff_forall_not_mem]
  intro j hj
  obtain ⟨h1,o,ho,_⟩:=(ready_iff hF (by simp at hl;omega)).1 hj
  have:=(Array.getElem?_eq_some_iff.1 ho).1
  simp at hl
  omega
 |o::rest,k,listed,hF,hd,hl,h=>by
  have hk:k<ops.size:=by simp at hl;omega
  have hat:ops[k]? =some o:=by
   have:=congrArg (fun l=>l[0]?) hd
   simpa using this
  have hdrop:ops.toList.drop (k+1)=rest:=by
   have:=congrArg List.tail hd
   simpa using this
  have hjs:∀j oj,ops[j]? =some oj→k<j→oj∈rest:=fun j oj hj hkj=>by
   rw [←hdrop]
   refine List.mem_iff_getElem?.2 ⟨j-(k+1),?_⟩
   rw [List.getElem?_drop,show k+1+(j-(k+1))=j by omega]
   simpa using hj
  simp only [idR,Bool.and_eq_true,List.all_eq_true,Bool.or_eq_true,Bool.not_eq_true',decide_eq_true_iff] at h
  obtain ⟨⟨h1,h2⟩,h3⟩:=h
  have hready:k∈Region.ready .any ops listed:=(ready_iff hF (Nat.le_of_lt hk)).2 ⟨Nat.le_refl _,o,hat,fun e he hb=>by
   rcases h1 e (by simpa using he) with q|q
   ·rw [q] at hb;cases hb
   ·exact q⟩
  have ih:=idR_ord rest (k+1) (listed.setIfInBounds k true) (hF.next hk) hdrop (by simp at hl;omega) h3
  simp only [List.length_cons,List.range'_succ,ordR,hat,Option.map_some,Option.getD_some]
  rw [ih,Bool.and_true]
  by_cases hloud:loudOp o.op=true
  ·rw [if_pos hloud] at h2⊢
   rw [beq_iff_eq]
   refine ready_one hk fun j=>⟨fun hj=> ?_,fun e=>e▸hready⟩
   obtain ⟨q1,oj,q2,q3⟩:=(ready_iff hF (Nat.le_of_lt hk)).1 hj
   by_cases e:j=k
   ·exact e
   ·have h4:=List.all_eq_true.1 h2 oj (hjs j oj q2 (by omega))
    obtain ⟨x,hx,hb⟩:=List.any_eq_true.1 h4
    simp only [Bool.and_eq_true,decide_eq_true_iff] at hb
    have:=q3 x (by simpa using hx) hb.1
    omega
  ·rw [if_neg hloud] at h2⊢
   rw [Bool.and_eq_true]
   refine ⟨by simpa using hready,?_⟩
   simp only [Region.free,hat,List.all_eq_true,List.mem_range]
   intro j hj
   by_cases e:j≤k
   ·by_cases e2:j=k
    ·simp [e2]
    ·have:listed.getD j true=true:=by rw [hF.getT hj];simp;omega
     simp [this]
   ·obtain ⟨oj,hoj⟩:∃oj,ops[j]? =some oj:=⟨ops[j],Array.getElem?_eq_getElem hj⟩
    have h4:=List.all_eq_true.1 h2 oj (hjs j oj hoj (by omega))
    rw [hoj]
    simp only [Bool.or_eq_true] at h4⊢
    rcases h4 with q|q
    ·right;left
     obtain ⟨x,hx,hb⟩:=List.any_eq_true.1 q
     exact Array.any_eq_true'.2 ⟨x,by simpa using hx,hb⟩
    ·exact .inr (.inr q)
section
variable {P:Program} {Q:Exit→Act→World→Prop} {a:Act} {w:World}
theorem wp_region_i (order:List Nat) {id:Nat} {l:List Oper} (hm:P.follows .mixedOrders=true) (hs:Region.noSelect l.toArray=true) (hB:idR l.toArray 0 l=true) (hO:order=List.range' 0 l.length)
  (hQ:∀c a d v w,Q (.panic c) (a.put d v) w→Q (.panic c) a w)
  (h:GexAt P l Q order a w.drew):(Code.region id l.toArray true).wp P Q a w:=by
 refine wp_region_g order hm ?_ hQ h
 unfold lexR
 rw [hs,hO]
 simp only [Bool.true_and,Bool.and_eq_true,beq_iff_eq]
 exact ⟨by simp,idR_ord l 0 _ (FirstK.zero _) rfl (by simp) hB⟩
end
end
end Go.Proofs.YtioigihakjlopaaGreat

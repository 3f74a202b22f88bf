/- Texts put together and cut to what is used: AppStr. -/
import Derived.Test.YtioigihakjlopaaGreatVK13
import Derived.Lib.AppendStr
namespace Go.Proofs.YtioigihakjlopaaGreat
set_option linter.unusedVariables false
set_option linter.unusedSimpArgs false
section
open Go.RowKit
theorem wpList_append_str {P:Program} {ops:Array Oper} {rest:List Oper} {o:Oper} {a:Act} {w:World} {Q:Exit→Act→World→Prop} (hgd:o.guard=none) (sl x:Operand) (t u:TypeId)
  (ho:o.op= .call {callee:= .builtin .append,args:= #[sl,x],argTypes:= #[t,u]}) {e:TypeId} (hT:RowType P t e 1 1) (hz:(P.info? e).bind (·.zero)=some (.int .u8 0)) (hu:P.underlying u=some .string)
  {B:Nat} {sa:Option Addr} {n sc:Nat} {xs:List Value} (hs:a.eval sl= .slice sa n sc) (hown:Own w B e 1 sa n sc xs) {s:ByteArray} (hx:a.eval x= .string s) (h63:n+s.size≤140737488355328) (hbase:B≤w.heap.size)
  (h:∀a' c' w',Own w' B e 1 a' (n+s.size) c' (xs++(strL s).map bv)→w.grownBy w' (Value.slice sa n sc).ownBlock→wpList P ops Q rest (a.put o.dst (.slice a' (n+s.size) c')) w'):wpList P ops Q (o::rest) a w:=by
 obtain ⟨ht,hsz,i,z,hi,hz',hsize,hby,hzs⟩:=hT
 have hzero:i.zero=some (.int .u8 0):=by simpa [hi] using hz
 refine Go.Lib.wpList_append_own_string w hgd sl x t u ho B e i ht hu hi hzero hsize hby (.slice sa n sc) n xs hs hown s hx (by unfold maxLen;omega) h63 hbase ?_
 intro v' w' hown' hg _
 have e1:Go.Lib.strCells s=(strL s).map bv:=rfl
 rw [e1] at hown'
 have form:∃a' c',v'= .slice a' (n+s.size) c':=by
  rcases hown'.2 with ⟨rfl,hn⟩|⟨g,cap,cur,rfl,_⟩
  ·exact ⟨none,0,by rw [hn]⟩
  ·exact ⟨_,_,rfl⟩
 obtain ⟨a',c',rfl⟩:=form
 exact h a' c' w' hown' hg
end
end Go.Proofs.YtioigihakjlopaaGreat

/- Texts put together and cut to what is used: LogLaws. -/
import Derived.Test.YtioigihakjlopaaGreatVK32
namespace Go.Proofs.YtioigihakjlopaaGreat
set_option linter.unusedVariables false
set_option linter.unusedSimpArgs false
section
open Go.RowKit
def recErr (m:Nat):Int:=if m=0 then 2 else if 65536<m then 3 else 0
def recOut (l:List UInt8):List UInt8:=if l.length=0∨65536<l.length then [] else record l
theorem record_all (a:Option Addr) (len cap:Nat) (l:List UInt8) (w:World) (hl:BytesAt w a l) (hlen:l.length=len):
  Calls Tryz.prog 115 #[.slice a len cap] w fun e w'=>∃a' n' c',e= .returned (.tuple #[.slice a' n' c',.int .i64 (recErr len)])∧BytesAt w' a' (recOut l)∧(recOut l).length=n'∧Below w.heap.size w w':=by
 by_cases h0:len=0
 ·subst h0
  refine (record_none a cap w).mono ?_
  rintro e w' ⟨rfl,rfl⟩
  have e:recOut l=[]:=by unfold recOut;rw [if_pos (.inl hlen)]
  exact ⟨none,0,0,rfl,by rw [e];exact RowAt.nil _ _,by rw [e];rfl,Below.refl _ _⟩
 ·by_cases h1:65536<len
  ·refine (record_long a len cap w h1).mono ?_
   rintro e w' ⟨rfl,rfl⟩
   have e:recOut l=[]:=by unfold recOut;rw [if_pos (.inr (by omega))]
   exact ⟨none,0,0,by unfold recErr;rw [if_neg h0,if_pos h1],by rw [e];exact RowAt.nil _ _,by rw [e];rfl,Below.refl _ _⟩
  ·refine (record_any a len cap l w hl hlen (by omega) (by omega)).mono ?_
   rintro e w' ⟨a',c',rfl,h,hb⟩
   have e:recOut l=record l:=by unfold recOut;rw [if_neg (by omega)]
   exact ⟨a',8+len,c',by unfold recErr;rw [if_neg h0,if_neg h1],by rw [e];exact h.row,by rw [e,record_length,hlen],hb⟩
end
end Go.Proofs.YtioigihakjlopaaGreat

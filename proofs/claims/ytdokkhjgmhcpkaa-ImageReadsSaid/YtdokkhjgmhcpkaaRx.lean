/- Drawn regions in which the call's own row grows: what lies below B stays, and whatever is no row of cells of type T. No program is named. -/
import Derived.Test.YtdokkhjgmhcpkaaKept
namespace Go.Proofs.Ytdokkhjgmhcpkaa
open Go.RowKit

def Rx (B : Nat) (T : TypeId) (w w' : World) : Prop := Below B w w' ∧ KeepNot T w w'
theorem Rx.refl {B : Nat} {T : TypeId} (w : World) : Rx B T w w := ⟨Below.refl _ _, KeepNot.refl w⟩
theorem Rx.trans {B : Nat} {T : TypeId} (x y z : World) (h1 : Rx B T x y) (h2 : Rx B T y z) : Rx B T x z := ⟨h1.1.trans h2.1, KeepNot.trans h1.2 h2.2⟩
theorem Rx.old {B : Nat} {T : TypeId} {w w' : World} (hb : Below w.heap.size w w') (hB : B ≤ w.heap.size) : Rx B T w w' := ⟨hb.mono hB, KeepNot.of hb⟩
theorem Rx.alloc {B : Nat} {T : TypeId} (w : World) (hB : B ≤ w.heap.size) (o : Obj) : Rx B T w (w.alloc o) := Rx.old ((Below.refl _ _).alloc (Nat.le_refl _) o) hB
theorem Rx.grown {B B' : Nat} {T : TypeId} {w w' : World} {size : Nat} {a : Option Addr} {n c : Nat} {vs : List Value} (h : Own w B' T size a n c vs) (hB : B ≤ B') (hz : B ≤ w.heap.size) (hg : w.grownBy w' (Value.slice a n c).ownBlock) : Rx B T w w' :=
  ⟨h.grown (Below.refl _ _) hB hg hz, KeepNot.grown h hg⟩
theorem Rx.cell {B : Nat} {T : TypeId} {w w' : World} (h : Rx B T w w') {b : Nat} {i : Nat} {v : Value} (hb : b < B) (hc : w.cell? ⟨b, i, none⟩ = some v) : w'.cell? ⟨b, i, none⟩ = some v := by
  rw [h.1.cell (p := ⟨b, i, none⟩) hb]; exact hc
theorem Rx.blk {B : Nat} {T : TypeId} {w w' : World} (h : Rx B T w w') {b : Nat} {cs : Array Value} {t : TypeId} (hB : Blk w b cs t) (hne : t ≠ T) : Blk w' b cs t := hB.keepNot h.2 hne
section
variable {P : Program} {Q : Exit → Act → World → Prop} {a : Act} {w : World}
theorem wp_region_treeX (B : Nat) (T : TypeId) (p : Plan) {id : Nat} {l : List Oper} (hm : P.follows .mixedOrders = true) (hB : lexT false l.toArray p = true)
    (hQ : ∀ c a d v w, Q (.panic c) (a.put d v) w → Q (.panic c) a w)
    (h : wpLexT false P l.toArray Q (Rx B T) p a w.drew) : (Code.region id l.toArray true).wp P Q a w :=
  wp_region_treeR false (Rx B T) Rx.refl Rx.trans p hm hB hQ h
end
end Go.Proofs.Ytdokkhjgmhcpkaa

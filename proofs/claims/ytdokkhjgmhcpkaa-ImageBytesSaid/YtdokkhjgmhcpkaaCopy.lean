/- copy at one operation; make with room at one operation. No program is named. -/
import Derived.Test.YtdokkhjgmhcpkaaBase
import Derived.Laws.CopyRow
import Derived.OwnWalk
namespace Go.Proofs.Ytdokkhjgmhcpkaa
open Go.RowKit

theorem wp_copy_row {P : Program} {o : Oper} {a : Act} {w : World} {K : Act → World → Prop} {Q : Exit → Act → World → Prop} (d s : Operand) (dT sT : TypeId)
    (ho : o.op = .call { callee := .builtin .copy, args := #[d, s], argTypes := #[dT, sT] }) {elem : TypeId} (hu : P.underlying dT = some (.slice elem)) (hsz : (P.info? elem).map (·.size) = some 1)
    {g off dLen dCap : Nat} {ad : Addr} {sLen sCap : Nat} (hd : a.eval d = .slice (some ⟨g, off, none⟩) dLen dCap) (hs : a.eval s = .slice (some ad) sLen sCap)
    {cur : Array Value} {t : TypeId} (hg : Blk w g cur t) {cs : List Value} (hn : cs.length = Nat.min sLen dLen)
    (hsrc : ∀ j v, cs[j]? = some v → w.cell? (ad.add j) = some v) (hfit : off + cs.length ≤ cur.size) (h1 : ∀ v ∈ cs, v.oneCell' = true)
    (h : K (a.put o.dst (goInt cs.length)) (w.setRow g (splice cur off cs.toArray))) : o.wp P a w K Q := by
  have hrun := run_copy_row (P := P) w dT sT o.type elem g off dLen dCap ad sLen sCap cur t cs hu hsz hg hn hsrc hfit h1
  unfold Oper.wp
  simp [execOp, ho, resolve, invoke, builtin, hd, hs, hrun, Result.andThen]
  simp [splice] at h
  exact h
theorem wpList_copy_row {P : Program} {o : Oper} {a : Act} {w : World} {ops : Array Oper} {rest : List Oper} {Q : Exit → Act → World → Prop} (hgd : o.guard = none) (d s : Operand) (dT sT : TypeId)
    (ho : o.op = .call { callee := .builtin .copy, args := #[d, s], argTypes := #[dT, sT] }) {elem : TypeId} (hu : P.underlying dT = some (.slice elem)) (hsz : (P.info? elem).map (·.size) = some 1)
    {g off dLen dCap : Nat} {ad : Addr} {sLen sCap : Nat} (hd : a.eval d = .slice (some ⟨g, off, none⟩) dLen dCap) (hs : a.eval s = .slice (some ad) sLen sCap)
    {cur : Array Value} {t : TypeId} (hg : Blk w g cur t) {cs : List Value} (hn : cs.length = Nat.min sLen dLen)
    (hsrc : ∀ j v, cs[j]? = some v → w.cell? (ad.add j) = some v) (hfit : off + cs.length ≤ cur.size) (h1 : ∀ v ∈ cs, v.oneCell' = true)
    (h : wpList P ops Q rest (a.put o.dst (goInt cs.length)) (w.setRow g (splice cur off cs.toArray))) : wpList P ops Q (o :: rest) a w :=
  wpList_plain hgd fun _ hK => wp_copy_row d s dT sT ho hu hsz hd hs hg hn hsrc hfit h1 (hK _ _ h)
/-- What is read out of a block known whole, as the source of a copy. -/
theorem Blk.src {w : World} {g : Nat} {cs : Array Value} {t : TypeId} (h : Blk w g cs t) (o n : Nat) : ∀ j v, ((cs.toList.drop o).take n)[j]? = some v → w.cell? ((⟨g, o, none⟩ : Addr).add j) = some v := by
  intro j v hv
  rw [Addr.add_mid, h.rule]
  rw [List.getElem?_take] at hv
  split at hv
  · rw [List.getElem?_drop] at hv
    simpa using hv
  · cases hv
/-- Bytes that are read, as the source of a copy. -/
theorem RowAt.src {w : World} {ad : Addr} {vs : List Value} (h : RowAt w (some ad) vs) (n : Nat) : ∀ j v, (vs.take n)[j]? = some v → w.cell? (ad.add j) = some v := by
  intro j v hv
  rw [List.getElem?_take] at hv
  split at hv
  · obtain ⟨hj, rfl⟩ := List.getElem?_eq_some_iff.1 hv
    obtain ⟨b, o, e, hc⟩ := h j hj
    obtain rfl := Option.some.inj e
    rw [Addr.add_mid]; exact hc
  · cases hv
end Go.Proofs.Ytdokkhjgmhcpkaa

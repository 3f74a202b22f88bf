/- A region that draws its order, within a round of a range over a function: walked as outside. No program is named. -/
import Derived.Test.YtnojeiklgjhkgaaLex
import Derived.OrdersIn
import Derived.RangeFuncNested
namespace Go.Proofs.Ytnojeiklgjhkgaa
open Go.RowKit

def noDefer (o : Oper) : Bool := match o.op with
  | .defer _ => false
  | _ => true
section
variable {n l : Nat} {P : Program} {ops : Array Oper} {Q : Exit → Act → World → Prop} {md : Region.Mode}
theorem oper_round {o : Oper} {a : Act} {w : World} {K : Act → World → Prop} (hd : noDefer o = true) (h : o.wp P a w K Q) : o.wpIn (Fence.wide.inRound l) n P a w K Q := by
  have hs : o.semAt (Fence.wide.inRound l).round a.eval = execOp a.eval o := Oper.semAt_eq _ _ _ (fun c e => by simp [noDefer, e] at hd)
  refine ⟨fun _ _ => trivial, ?_⟩
  rw [hs]
  unfold Oper.wp at h
  generalize (execOp a.eval o).run P w = r at *
  cases r with
  | ok x w' =>
    cases x <;> simp only [Oper.upon] at h <;> simp only [Oper.uponIn]
    case value => exact h
    case skip => exact h
    case defer => exact h
    case enter f args => exact ⟨fun e => by simp [Fence.wide] at e, (callsIn_wide (n := n - 1)).2 h⟩
    case row row args => exact ⟨fun e => by simp [Fence.wide] at e, fun c cs _ => let ⟨v, w', r, s⟩ := h c cs; ⟨v, w', r, (stepsIn_wide (P := P)).2 s⟩⟩
  | halt x w' => cases x <;> simp only [Oper.upon] at h <;> simp only [Oper.uponIn] <;> exact h
theorem wpOp_round {i : Nat} {a : Act} {w : World} {K : Act → World → Prop} (hd : ops.all noDefer = true) (hq : ¬ LetsOut Q) (h : wpOp P ops Q i K a w) : wpOpIn (Fence.wide.inRound l) n P ops Q i K a w := by
  unfold wpOp at h
  unfold wpOpIn
  cases ho : ops[i]? with
  | none => simp only [ho] at h ⊢; exact h
  | some o =>
    have hdo : noDefer o = true := (Array.all_eq_true_iff_forall_mem.1 hd) o (Array.mem_of_getElem? ho)
    simp only [ho] at h ⊢
    split
    · rename_i hw
      rw [if_pos hw] at h
      rcases h with h | ⟨_, h⟩
      · exact oper_round hdo h
      · exact (hq h).elim
    · rename_i hw
      rw [if_neg hw] at h
      exact ⟨fun _ _ => trivial, h⟩
theorem wpAny_round (hd : ops.all noDefer = true) (hq : ¬ LetsOut Q) : ∀ (fuel : Nat) (listed : Array Bool) (a : Act) (w : World), wpAny P md ops Q fuel listed a w → wpAnyIn (Fence.wide.inRound l) n P md ops Q fuel listed a w
  | 0, _, _, _, h => h
  | fuel + 1, _, _, _, h => ⟨h.1, fun i hi => wpOpIn_mono (fun a' w' h' => wpAny_round hd hq fuel _ a' w' h') (wpOp_round hd hq (h.2 i hi))⟩
theorem wp_region_round {id : Nat} {a : Act} {w : World} (order : List Nat) {ol : List Oper} (hm : P.follows .mixedOrders = true) (hd : ol.toArray.all noDefer = true) (hq : ¬ LetsOut Q) (hB : lexR ol.toArray order = true)
    (hQ : ∀ c a d v w, Q (.panic c) (a.put d v) w → Q (.panic c) a w)
    (h : wpLexR P ol.toArray Q Old order a w.drew) : (Code.region id ol.toArray true).wpIn (Fence.wide.inRound l) n P Q a w := by
  simp only [lexR, Bool.and_eq_true] at hB
  refine wpIn_region_any hm (wpAny_round hd hq _ _ _ _ (wpAny_of_R _ _ _ _ (R := Old) ?_))
  have := wpAnyR_lex (R := Old) (md := .any) Old.refl Old.trans hB.1.1 hQ order (Array.replicate ol.toArray.size false) a w.drew hB.2 h
  rwa [show order.length = ol.toArray.size by simpa using hB.1.2] at this
theorem wp_region_roundT {id : Nat} {a : Act} {w : World} (m : Bool) (R : World → World → Prop) (hrefl : ∀ w, R w w) (ht : ∀ x y z, R x y → R y z → R x z) (p : Plan) {ol : List Oper} (hm : P.follows .mixedOrders = true) (hd : ol.toArray.all noDefer = true) (hq : ¬ LetsOut Q) (hB : lexT m ol.toArray p = true)
    (hQ : ∀ c a d v w, Q (.panic c) (a.put d v) w → Q (.panic c) a w)
    (h : wpLexT m P ol.toArray Q R p a w.drew) : (Code.region id ol.toArray true).wpIn (Fence.wide.inRound l) n P Q a w := by
  simp only [lexT, Bool.and_eq_true] at hB
  exact wpIn_region_any hm (wpAny_round hd hq _ _ _ _ (wpAny_of_S _ _ _ _ (R := R) (wpAnyS_lexT (R := R) (md := .any) hrefl ht hB.1.1 hQ p _ _ a w.drew hB.1.2 (Closed.none _ _ _) hB.2 h)))
end
/-- Where nothing is let out. -/
theorem letsOut_then {K : Act → World → Prop} {Q : Exit → Act → World → Prop} (h : ¬ LetsOut Q) : ¬ LetsOut (Exit.then K Q) := by
  rintro ⟨a, w, h'⟩
  exact h ⟨a, w, h'⟩
theorem letsOut_block {id : Nat} {Q : Exit → Act → World → Prop} (h : ¬ LetsOut Q) : ¬ LetsOut (Exit.inBlock id Q) := by
  rintro ⟨a, w, h'⟩
  exact h ⟨a, w, h'⟩
theorem letsOut_own {α : Type} {B : Nat} {Kp : World → World → Prop} {I : List α → World → Prop} {Ix : Code → List α → World → Prop} {xs : List α} {W : World} : ¬ LetsOut (ownPostG B Kp I Ix xs W) := by
  rintro ⟨a, w, h'⟩
  exact h'
end Go.Proofs.Ytnojeiklgjhkgaa

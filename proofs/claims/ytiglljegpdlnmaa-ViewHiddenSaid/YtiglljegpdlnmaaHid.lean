/- What is hidden of a state, written over. -/
import Derived.Test.YtiglljegpdlnmaaCopyS
namespace Go.Proofs.Ytiglljegpdlnmaa
open Go.RowKit
set_option linter.unusedSimpArgs false
set_option linter.unusedVariables false

/-! ### Plain -/
def hidQ (p : StateP) (xd xh xo yd yh yo : List Int) : StateP := { p with x := { p.x with deck := xd, hand := xh, told := xo }, y := { p.y with deck := yd, hand := yh, told := yo } }
theorem seen_hid {p : StateP} {xd xh xo yd yh yo : List Int} {who : Nat} (hw : who ≤ 2) (h1 : xd.length = p.x.deck.length) (h2 : xh.length = p.x.hand.length) (h3 : yd.length = p.y.deck.length) (h4 : yh.length = p.y.hand.length)
    (hx : who = 0 → xh = p.x.hand ∧ xo = p.x.told) (hy : who = 1 → yh = p.y.hand ∧ yo = p.y.told) : seen (hidQ p xd xh xo yd yh yo) (who : Int) = seen p (who : Int) := by
  obtain ⟨turn, mover, phase, struck, result, attack, next, ⟨xl, xm, xt, xd0, xh0, xg, xu, xo0⟩, ⟨yl, ym, yt, yd0, yh0, yg, yu, yo0⟩⟩ := p
  dsimp only at h1 h2 h3 h4 hx hy
  rcases (show who = 0 ∨ who = 1 ∨ who = 2 by omega) with rfl | rfl | rfl
  · obtain ⟨rfl, rfl⟩ := hx rfl
    simp [seen, seenSide, hidQ, h1, h3, h4]
  · obtain ⟨rfl, rfl⟩ := hy rfl
    simp [seen, seenSide, hidQ, h1, h2, h3]
  · simp [seen, seenSide, hidQ, h1, h2, h3, h4]
/-! ### Rows -/
section
variable {w w' : World} {B : Nat} {s t : Sl} {l : List Int}
theorem OwnInts.keep (h : OwnInts w B s l) (hk : ∀ x, s.a = some x → w'.heap[x.block]? = w.heap[x.block]?) : OwnInts w' B s l := ⟨Own.keepAt h.1 hk, (Own.keepAt h.1 hk).row, h.2.2⟩
theorem OwnThings.keep {l : List ThingL} (h : OwnThings w B s l) (hk : ∀ x, s.a = some x → w'.heap[x.block]? = w.heap[x.block]?) : OwnThings w' B s l := ⟨Own.keepAt h.1 hk, (Own.keepAt h.1 hk).row, h.2.2⟩
/-- Whatever number is written into whatever row, rows of numbers are left. -/
theorem OwnInts.setAny (h : OwnInts w B s l) (g i : Nat) (v : Int) (hv : wf64 v) : ∃ l', OwnInts (w.setCell ⟨g, i, none⟩ (.int .i64 v)) B s l' := by
  by_cases hs : ∃ x, s.a = some x ∧ x.block = g
  · obtain ⟨x, hx, rfl⟩ := hs
    obtain ⟨a, n, c⟩ := s
    have ho := h.1
    have hi := h.2
    simp only at hx ho
    subst hx
    rcases ho.2 with ⟨h0, _⟩ | ⟨g', cap, cur, h0, hB, hg, hn, hc, hsz, ht⟩
    · simp only [Value.slice.injEq] at h0
      cases h0.1
    · simp only [Value.slice.injEq, Option.some.injEq] at h0
      obtain ⟨rfl, -, rfl⟩ := h0
      have hlen : l.length = n := hi.2.1
      have hb : Blk w g' cur 3 := hg
      have hset := hb.set i (.int .i64 v)
      have htake : (cur.setIfInBounds i (.int .i64 v)).toList.take n = ((if i < n then l.set i v else l).map (Value.int .i64)) := by
        rw [Nat.mul_one] at ht
        rw [Array.toList_setIfInBounds, List.take_set, ht]
        split
        · rw [List.map_set]
        · rw [List.set_eq_of_length_le (by rw [List.length_map, hlen]; omega)]
      have hl2 : (if i < n then l.set i v else l).length = n := by split <;> simp [hlen]
      have hown : Own (w.setCell ⟨g', i, none⟩ (.int .i64 v)) B 3 1 (some ⟨g', 0, none⟩) n c ((if i < n then l.set i v else l).map (Value.int .i64)) := by
        refine ⟨by rw [List.length_map, hl2, Nat.mul_one], .inr ⟨g', c, _, rfl, hB, hset, hn, hc, by simpa using hsz, by rw [Nat.mul_one]; exact htake⟩⟩
      refine ⟨_, hown, hown.row, hl2, hi.2.2.1, hi.2.2.2.1, hi.2.2.2.2.1, fun y hy => ?_⟩
      split at hy
      · rcases List.mem_or_eq_of_mem_set hy with hy | rfl
        · exact hi.2.2.2.2.2 y hy
        · exact hv
      · exact hi.2.2.2.2.2 y hy
  · exact ⟨l, h.keep fun x hx => heap_setCell_other w ⟨g, i, none⟩ x.block _ fun e => hs ⟨x, hx, e⟩⟩
theorem OwnInts.setOff (h : OwnInts w B s l) (g i : Nat) (v : Value) (hs : ∀ x, s.a = some x → x.block ≠ g) : OwnInts (w.setCell ⟨g, i, none⟩ v) B s l := h.keep fun x hx => heap_setCell_other w ⟨g, i, none⟩ x.block _ (hs x hx)
end
/-- What the law's loops keep. -/
structure HidRel (B : Nat) (p : StateP) (h1 : StateH) (who : Nat) (h2 : StateH) (wr : World) : Prop where
  att : OwnInts wr B h1.attack p.attack
  xd : ∃ l, OwnInts wr B h1.x.deck l
  xh : ∃ l, OwnInts wr B h1.x.hand l ∧ (who = 0 → l = p.x.hand)
  xg : OwnInts wr B h1.x.grave p.x.grave
  xu : OwnThings wr B h1.x.units p.x.units
  xo : ∃ l, OwnInts wr B h2.x.told l ∧ (who = 0 → l = p.x.told)
  yd : ∃ l, OwnInts wr B h1.y.deck l
  yh : ∃ l, OwnInts wr B h1.y.hand l ∧ (who = 1 → l = p.y.hand)
  yg : OwnInts wr B h1.y.grave p.y.grave
  yu : OwnThings wr B h1.y.units p.y.units
  yo : ∃ l, OwnInts wr B h2.y.told l ∧ (who = 1 → l = p.y.told)
/-- A row that may be written. -/
structure WrOk (h1 h2 : StateH) (who : Nat) (s : Sl) : Prop where
  att : Apart s h1.attack
  xg : Apart s h1.x.grave
  yg : Apart s h1.y.grave
  x0 : who = 0 → Apart s h1.x.hand ∧ Apart s h2.x.told
  y1 : who = 1 → Apart s h1.y.hand ∧ Apart s h2.y.told
section
variable {B : Nat} {p : StateP} {h1 h2 : StateH} {who : Nat} {wr w' : World}
theorem HidRel.old (h : HidRel B p h1 who h2 wr) (hb : Below wr.heap.size wr w') : HidRel B p h1 who h2 w' := by
  obtain ⟨a, ⟨xd, xd'⟩, ⟨xh, xh', xh''⟩, xg, xu, ⟨xo, xo', xo''⟩, ⟨yd, yd'⟩, ⟨yh, yh', yh''⟩, yg, yu, ⟨yo, yo', yo''⟩⟩ := h
  exact ⟨a.old hb, ⟨_, xd'.old hb⟩, ⟨_, xh'.old hb, xh''⟩, xg.old hb, xu.old hb, ⟨_, xo'.old hb, xo''⟩, ⟨_, yd'.old hb⟩, ⟨_, yh'.old hb, yh''⟩, yg.old hb, yu.old hb, ⟨_, yo'.old hb, yo''⟩⟩
theorem HidRel.put (h : HidRel B p h1 who h2 wr) {g : Nat} {cs : Array Value} {t : TypeId} (hB : Blk wr g cs t) (e1 : t ≠ 3) (e2 : t ≠ 69) (cs' : Array Value) : HidRel B p h1 who h2 (wr.setRow g cs') := by
  obtain ⟨a, ⟨xd, xd'⟩, ⟨xh, xh', xh''⟩, xg, xu, ⟨xo, xo', xo''⟩, ⟨yd, yd'⟩, ⟨yh, yh', yh''⟩, yg, yu, ⟨yo, yo', yo''⟩⟩ := h
  exact ⟨a.put hB e1 e2 cs', ⟨_, xd'.put hB e1 e2 cs'⟩, ⟨_, xh'.put hB e1 e2 cs', xh''⟩, xg.put hB e1 e2 cs', xu.put hB e1 e2 cs', ⟨_, xo'.put hB e1 e2 cs', xo''⟩, ⟨_, yd'.put hB e1 e2 cs'⟩, ⟨_, yh'.put hB e1 e2 cs', yh''⟩, yg.put hB e1 e2 cs', yu.put hB e1 e2 cs', ⟨_, yo'.put hB e1 e2 cs', yo''⟩⟩
theorem HidRel.write (h : HidRel B p h1 who h2 wr) {s : Sl} (hs : WrOk h1 h2 who s) {x : Addr} (hx : s.a = some x) {cur : Array Value} (hi : Blk wr x.block cur 3) (i : Nat) (v : Int) (hv : wf64 v) : HidRel B p h1 who h2 (wr.setCell ⟨x.block, i, none⟩ (.int .i64 v)) := by
  obtain ⟨a, ⟨xd, xd'⟩, ⟨xh, xh', xh''⟩, xg, xu, ⟨xo, xo', xo''⟩, ⟨yd, yd'⟩, ⟨yh, yh', yh''⟩, yg, yu, ⟨yo, yo', yo''⟩⟩ := h
  have off : ∀ {t : Sl} {l : List Int}, OwnInts wr B t l → Apart s t → OwnInts (wr.setCell ⟨x.block, i, none⟩ (.int .i64 v)) B t l := fun ht hap => ht.setOff _ _ _ fun y hy e => hap x y hx hy e.symm
  have offT : ∀ {t : Sl} {l : List ThingL}, OwnThings wr B t l → OwnThings (wr.setCell ⟨x.block, i, none⟩ (.int .i64 v)) B t l := fun ht => ht.keep fun y hy => heap_setCell_other wr ⟨x.block, i, none⟩ y.block _ (by
    obtain ⟨_, _, c, hc⟩ := Own.block_lt ht.1 hy
    exact Blk.ne hc hi (by decide))
  refine ⟨off a hs.att, xd'.setAny _ _ v hv, ?_, off xg hs.xg, offT xu, ?_, yd'.setAny _ _ v hv, ?_, off yg hs.yg, offT yu, ?_⟩
  · by_cases hw : who = 0
    · exact ⟨_, off xh' (hs.x0 hw).1, xh''⟩
    · obtain ⟨l', hl'⟩ := xh'.setAny x.block i v hv
      exact ⟨l', hl', fun e => (hw e).elim⟩
  · by_cases hw : who = 0
    · exact ⟨_, off xo' (hs.x0 hw).2, xo''⟩
    · obtain ⟨l', hl'⟩ := xo'.setAny x.block i v hv
      exact ⟨l', hl', fun e => (hw e).elim⟩
  · by_cases hw : who = 1
    · exact ⟨_, off yh' (hs.y1 hw).1, yh''⟩
    · obtain ⟨l', hl'⟩ := yh'.setAny x.block i v hv
      exact ⟨l', hl', fun e => (hw e).elim⟩
  · by_cases hw : who = 1
    · exact ⟨_, off yo' (hs.y1 hw).2, yo''⟩
    · obtain ⟨l', hl'⟩ := yo'.setAny x.block i v hv
      exact ⟨l', hl', fun e => (hw e).elim⟩
/-- The state that stands there at the end. -/
theorem HidRel.at {h1' : StateH} {w0 : World} (h : HidRel B p h1 who h2 wr) (h0 : StateAt w0 p h1') (e1 : h2.attack = h1.attack) (e2 : h2.x = { h1.x with told := h2.x.told }) (e3 : h2.y = { h1.y with told := h2.y.told }) (hw : who ≤ 2)
    (n1 : h1.x.deck.n = p.x.deck.length) (n2 : h1.x.hand.n = p.x.hand.length) (n3 : h1.y.deck.n = p.y.deck.length) (n4 : h1.y.hand.n = p.y.hand.length) :
    ∃ q : StateP, StateAt wr q h2 ∧ seen q (who : Int) = seen p (who : Int) ∧ stateCells q h2 = stateCells p h2 := by
  obtain ⟨a, ⟨xd, xd'⟩, ⟨xh, xh', xh''⟩, xg, xu, ⟨xo, xo', xo''⟩, ⟨yd, yd'⟩, ⟨yh, yh', yh''⟩, yg, yu, ⟨yo, yo', yo''⟩⟩ := h
  refine ⟨hidQ p xd xh xo yd yh yo, ?_, ?_, rfl⟩
  · obtain ⟨ha2, hx2, hy2⟩ := h2
    dsimp only at e1 e2 e3 xo' yo'
    rw [e1, e2, e3]
    exact ⟨h0.turn, h0.mover, h0.phase, h0.result, a.at, h0.next, ⟨h0.x.life, h0.x.mana, h0.x.most, xd'.at, xh'.at, xg.at, xu.at, xo'.at⟩, ⟨h0.y.life, h0.y.mana, h0.y.most, yd'.at, yh'.at, yg.at, yu.at, yo'.at⟩⟩
  · refine seen_hid hw ?_ ?_ ?_ ?_ (fun e => ⟨xh'' e, xo'' e⟩) (fun e => ⟨yh'' e, yo'' e⟩)
    · exact xd'.at.2.1.trans n1
    · exact xh'.at.2.1.trans n2
    · exact yd'.at.2.1.trans n3
    · exact yh'.at.2.1.trans n4
end
end Go.Proofs.Ytiglljegpdlnmaa

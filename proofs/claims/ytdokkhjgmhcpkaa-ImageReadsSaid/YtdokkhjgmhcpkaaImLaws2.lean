/- States and actions as bytes: the codecs of things, sides, states, actions; all of some bytes. No program is named. -/
import Derived.Test.YtdokkhjgmhcpkaaImLaws
namespace Go.Proofs.Ytdokkhjgmhcpkaa
open Go.RowKit
set_option linter.unusedVariables false
set_option linter.unusedSimpArgs false

theorem thn_assoc {α β γ : Type} (x : Rd α) (f : α → Nat → Rd β) (g : β → Nat → Rd γ) : thn (thn x f) g = thn x fun v a => thn (f v a) g := by cases x <;> rfl
theorem thn_ok' {α β : Type} (v : α) (a : Nat) (f : α → Nat → Rd β) : thn (.ok (v, a)) f = f v a := rfl
def okL (l : List Int) : Prop := (∀ x ∈ l, wf64 x) ∧ wf64 (l.length : Int)
theorem codec_ints : Codec okL encL rdInts := codec_list codec_num 8 (by omega) be8_length
def okT (u : ThingL) : Prop := wf64 u.id ∧ wf64 u.card ∧ wf64 u.harm ∧ True
theorem codec_thing : Codec okT thingB rdThing :=
  (codec_num.seq (codec_num.seq (codec_num.seq codec_truth))).iso (fun x => (⟨x.1, x.2.1, x.2.2.1, x.2.2.2⟩ : ThingL)) (fun u => (u.id, u.card, u.harm, u.tired)) (fun _ => rfl) (fun _ => rfl) (fun _ => Iff.rfl) (fun _ => by simp [thingB]) (fun bs a => by simp only [rdThing, thn_assoc, thn_ok'])
theorem thingB_len (u : ThingL) : (thingB u).length = 25 := by simp [thingB, be8_length, tr1]
def okU (l : List ThingL) : Prop := (∀ x ∈ l, okT x) ∧ wf64 (l.length : Int)
theorem codec_things : Codec okU encU rdThings := codec_list codec_thing 25 (by omega) thingB_len
def okR (u : PairL) : Prop := wf64 u.at_ ∧ wf64 u.by_
theorem codec_pair : Codec okR pairB rdPair :=
  (codec_num.seq codec_num).iso (fun x => (⟨x.1, x.2⟩ : PairL)) (fun u => (u.at_, u.by_)) (fun _ => rfl) (fun _ => rfl) (fun _ => Iff.rfl) (fun _ => by simp [pairB]) (fun bs a => by simp only [rdPair, thn_assoc, thn_ok'])
theorem pairB_len (u : PairL) : (pairB u).length = 16 := by simp [pairB, be8_length]
def okP (l : List PairL) : Prop := (∀ x ∈ l, okR x) ∧ wf64 (l.length : Int)
theorem codec_pairs : Codec okP encP rdPairs := codec_list codec_pair 16 (by omega) pairB_len
def okSide (p : SideP) : Prop := wf64 p.life ∧ wf64 p.mana ∧ wf64 p.most ∧ okL p.deck ∧ okL p.hand ∧ okL p.grave ∧ okU p.units ∧ okL p.told
theorem codec_side : Codec okSide sideI rdSide :=
  (codec_num.seq (codec_num.seq (codec_num.seq (codec_ints.seq (codec_ints.seq (codec_ints.seq (codec_things.seq codec_ints))))))).iso
    (fun x => (⟨x.1, x.2.1, x.2.2.1, x.2.2.2.1, x.2.2.2.2.1, x.2.2.2.2.2.1, x.2.2.2.2.2.2.1, x.2.2.2.2.2.2.2⟩ : SideP)) (fun u => (u.life, u.mana, u.most, u.deck, u.hand, u.grave, u.units, u.told)) (fun _ => rfl) (fun _ => rfl) (fun _ => Iff.rfl) (fun _ => by simp [sideI]) (fun bs a => by simp only [rdSide, thn_assoc, thn_ok'])
def okState (p : StateP) : Prop := wf64 p.turn ∧ wf64 p.mover ∧ wf8 p.phase ∧ True ∧ wf8 p.result ∧ okL p.attack ∧ wf64 p.next ∧ okSide p.x ∧ okSide p.y
theorem codec_state : Codec okState stateI rdState :=
  (codec_num.seq (codec_num.seq (codec_small.seq (codec_truth.seq (codec_small.seq (codec_ints.seq (codec_num.seq (codec_side.seq codec_side)))))))).iso
    (fun x => (⟨x.1, x.2.1, x.2.2.1, x.2.2.2.1, x.2.2.2.2.1, x.2.2.2.2.2.1, x.2.2.2.2.2.2.1, x.2.2.2.2.2.2.2.1, x.2.2.2.2.2.2.2.2⟩ : StateP)) (fun u => (u.turn, u.mover, u.phase, u.struck, u.result, u.attack, u.next, u.x, u.y)) (fun _ => rfl) (fun _ => rfl) (fun _ => Iff.rfl) (fun _ => by simp [stateI]) (fun bs a => by simp only [rdState, thn_assoc, thn_ok'])
def okAction (p : ActionP) : Prop := wf8 p.op ∧ wf64 p.side ∧ wf64 p.place ∧ wf64 p.target ∧ okL p.ids ∧ okP p.pairs
theorem codec_action : Codec okAction actionI rdAction :=
  (codec_small.seq (codec_num.seq (codec_num.seq (codec_num.seq (codec_ints.seq codec_pairs))))).iso
    (fun x => (⟨x.1, x.2.1, x.2.2.1, x.2.2.2.1, x.2.2.2.2.1, x.2.2.2.2.2⟩ : ActionP)) (fun u => (u.op, u.side, u.place, u.target, u.ids, u.pairs)) (fun _ => rfl) (fun _ => rfl) (fun _ => Iff.rfl) (fun _ => by simp [actionI]) (fun bs a => by simp only [rdAction, thn_assoc, thn_ok'])
section
variable {α : Type} {ok : α → Prop} {enc : α → List UInt8} {rd : List UInt8 → Nat → Rd α}
theorem Codec.whole_more (h : Codec ok enc rd) {x : α} (hx : ok x) (more : List UInt8) : rdWhole rd (enc x ++ more) = if more = [] then .ok x else .error (enc x).length := by
  unfold rdWhole
  have := h.back x [] more hx
  simp only [List.nil_append, List.length_nil, Nat.zero_add] at this
  rw [this]
  dsimp only
  rw [List.length_append]
  cases more with
  | nil => simp
  | cons y l => simp
theorem Codec.whole_back (h : Codec ok enc rd) {x : α} (hx : ok x) : rdWhole rd (enc x) = .ok x := by
  have := h.whole_more hx []
  rwa [List.append_nil, if_pos rfl] at this
theorem Codec.whole_fwd (h : Codec ok enc rd) {x : α} {bs : List UInt8} (hr : rdWhole rd bs = .ok x) : ok x ∧ enc x = bs := by
  unfold rdWhole at hr
  cases hr1 : rd bs 0 with
  | error p => rw [hr1] at hr; cases hr
  | ok v =>
    rw [hr1] at hr
    dsimp only at hr
    split at hr
    · cases hr
    · rename_i hl
      cases hr
      obtain ⟨o, e, l, t⟩ := h.fwd bs 0 v.1 v.2 (Nat.zero_le _) hr1
      refine ⟨o, ?_⟩
      rw [List.drop_zero] at t
      rw [← t, List.take_of_length_le (by omega)]
theorem Codec.whole_err (h : Codec ok enc rd) {bs : List UInt8} {p : Nat} (hr : rdWhole rd bs = .error p) : p ≤ bs.length := by
  unfold rdWhole at hr
  cases hr1 : rd bs 0 with
  | error p' => rw [hr1] at hr; cases hr; exact h.err bs 0 _ (Nat.zero_le _) hr1
  | ok v =>
    rw [hr1] at hr
    dsimp only at hr
    split at hr
    · rename_i hl; cases hr; omega
    · cases hr
theorem Codec.whole_cut (h : Codec ok enc rd) {x : α} (hx : ok x) {cut : Nat} (hc : cut < (enc x).length) : ∃ p, rdWhole rd ((enc x).take cut) = .error p ∧ p ≤ cut := by
  cases hr : rdWhole rd ((enc x).take cut) with
  | error p =>
    refine ⟨p, rfl, ?_⟩
    have := h.whole_err hr
    rw [List.length_take] at this
    omega
  | ok y =>
    exfalso
    obtain ⟨oy, ey⟩ := h.whole_fwd hr
    have e1 : enc x = enc y ++ (enc x).drop cut := by rw [ey, List.take_append_drop]
    have h1 := h.whole_more oy ((enc x).drop cut)
    rw [← e1, h.whole_back hx, if_neg (by intro e; have := congrArg List.length e; rw [List.length_drop] at this; simp at this; omega)] at h1
    cases h1
theorem Codec.inj (h : Codec ok enc rd) {x y : α} (hx : ok x) (hy : ok y) (he : enc x = enc y) : x = y := by
  have h1 := h.whole_back hx
  rw [he, h.whole_back hy] at h1
  cases h1
  rfl
end
theorem wf64_small {n : Nat} (h : n ≤ 1000000000000000) : wf64 (n : Int) := by
  simp only [wf64, Lit.wf, IntKind.min, IntKind.max, IntKind.signed, IntKind.bits]
  simp
  omega
theorem Ints.okL {w : World} {s : Sl} {l : List Int} (h : Ints w s l) : okL l := ⟨h.2.2.2.2.2, wf64_small (by have h1 := h.2.1; have h2 := h.2.2.2.2.1; omega)⟩
theorem Things.okU {w : World} {s : Sl} {l : List ThingL} (h : Things w s l) : okU l := ⟨fun x hx => by obtain ⟨a, b, c⟩ := h.2.2.2.2.2 x hx; exact ⟨a, b, c, trivial⟩, wf64_small (by have h1 := h.2.1; have h2 := h.2.2.2.2.1; omega)⟩
theorem Pairs.okP {w : World} {s : Sl} {l : List PairL} (h : Pairs w s l) : okP l := ⟨h.2.2.2.2.2, wf64_small (by have h1 := h.2.1; have h2 := h.2.2.2.2.1; omega)⟩
theorem SideAt.ok {w : World} {p : SideP} {h : SideH} (a : SideAt w p h) : okSide p := ⟨a.life, a.mana, a.most, a.deck.okL, a.hand.okL, a.grave.okL, a.units.okU, a.told.okL⟩
theorem StateAt.ok {w : World} {p : StateP} {h : StateH} (a : StateAt w p h) : okState p := ⟨a.turn, a.mover, a.phase, trivial, a.result, a.attack.okL, a.next, a.x.ok, a.y.ok⟩
theorem ActionAt.ok {w : World} {p : ActionP} {h : ActionH} (a : ActionAt w p h) : okAction p := ⟨a.op, a.side, a.place, a.target, a.ids.okL, a.pairs.okP⟩
end Go.Proofs.Ytdokkhjgmhcpkaa

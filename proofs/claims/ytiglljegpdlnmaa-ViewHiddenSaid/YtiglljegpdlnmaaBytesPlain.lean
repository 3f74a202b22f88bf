/- Unlike views have unlike bytes: the plain law. -/
import Derived.Test.YtiglljegpdlnmaaBytes
namespace Go.Proofs.Ytiglljegpdlnmaa
open Go.RowKit

theorem be8_inj {n m : Int} (h : be8 n = be8 m) (hn : wf64 n) (hm : wf64 m) : n = m := by
  have hb : BitVec.ofInt 64 n = BitVec.ofInt 64 m := by
    apply BitVec.eq_of_getLsbD_eq
    intro i hi
    have hk : 7 - i / 8 < 8 := by omega
    have e := congrArg (fun l : List UInt8 => l[7 - i / 8]?) h
    simp only [be8, List.getElem?_map, List.getElem?_range hk, Option.map_some, Option.some.injEq, UInt8.ofBitVec.injEq] at e
    have e2 := congrArg (fun b : BitVec 8 => b.getLsbD (i % 8)) e
    simp only [BitVec.getLsbD_setWidth, BitVec.getLsbD_ushiftRight] at e2
    have h8 : i % 8 < 8 := by omega
    have hi2 : 56 - 8 * (7 - i / 8) + i % 8 = i := by omega
    simpa [h8, hi2] using e2
  have h1 := congrArg BitVec.toNat hb
  rw [BitVec.toNat_ofInt, BitVec.toNat_ofInt] at h1
  simp only [wf64, Lit.wf, IntKind.min, IntKind.max, IntKind.signed, IntKind.bits] at hn hm
  simp at hn hm h1
  omega
theorem be8_app {n m : Int} {r s : List UInt8} (h : be8 n ++ r = be8 m ++ s) (hn : wf64 n) (hm : wf64 m) : n = m ∧ r = s := by
  obtain ⟨h1, h2⟩ := List.append_inj h (by rw [be8_length, be8_length])
  exact ⟨be8_inj h1 hn hm, h2⟩
theorem tr1_app {a b : Bool} {r s : List UInt8} (h : tr1 a ++ r = tr1 b ++ s) : a = b ∧ r = s := by
  obtain ⟨h1, h2⟩ := List.append_inj h rfl
  refine ⟨?_, h2⟩
  cases a <;> cases b <;> simp [tr1] at h1 <;> rfl
theorem ints_app : ∀ {l m : List Int} {r s : List UInt8}, l.length = m.length → l.flatMap be8 ++ r = m.flatMap be8 ++ s → (∀ x ∈ l, wf64 x) → (∀ x ∈ m, wf64 x) → l = m ∧ r = s
  | [], [], _, _, _, h, _, _ => ⟨rfl, by simpa using h⟩
  | x :: l, y :: m, r, s, hl, h, h1, h2 => by
    simp only [List.flatMap_cons, List.append_assoc] at h
    obtain ⟨e1, h3⟩ := be8_app h (h1 x (by simp)) (h2 y (by simp))
    obtain ⟨e2, h⟩ := ints_app (by simpa using hl) h3 (fun z hz => h1 z (by simp [hz])) (fun z hz => h2 z (by simp [hz]))
    exact ⟨by rw [e1, e2], h⟩
theorem encL_app {w w' : World} {a b : Sl} {l m : List Int} {r s : List UInt8} (h : encL l ++ r = encL m ++ s) (hl : Ints w a l) (hm : Ints w' b m) : l = m ∧ r = s := by
  simp only [encL, List.append_assoc] at h
  obtain ⟨h1, h⟩ := be8_app h (wf_len hl) (wf_len hm)
  exact ints_app (by exact_mod_cast h1) h hl.2.2.2.2.2 hm.2.2.2.2.2
theorem thingB_app {x y : ThingL} {r s : List UInt8} (h : thingB x ++ r = thingB y ++ s) (hx : x.wf) (hy : y.wf) : x = y ∧ r = s := by
  simp only [thingB, List.append_assoc] at h
  obtain ⟨e1, h⟩ := be8_app h hx.1 hy.1
  obtain ⟨e2, h⟩ := be8_app h hx.2.1 hy.2.1
  obtain ⟨e3, h⟩ := be8_app h hx.2.2 hy.2.2
  obtain ⟨e4, hz⟩ := tr1_app h
  obtain ⟨i, c, hh, t⟩ := x
  obtain ⟨i', c', hh', t'⟩ := y
  dsimp only at e1 e2 e3 e4
  subst e1 e2 e3 e4
  exact ⟨rfl, hz⟩
theorem things_app : ∀ {l m : List ThingL} {r s : List UInt8}, l.length = m.length → l.flatMap thingB ++ r = m.flatMap thingB ++ s → (∀ x ∈ l, x.wf) → (∀ x ∈ m, x.wf) → l = m ∧ r = s
  | [], [], _, _, _, h, _, _ => ⟨rfl, by simpa using h⟩
  | x :: l, y :: m, r, s, hl, h, h1, h2 => by
    simp only [List.flatMap_cons, List.append_assoc] at h
    obtain ⟨e1, h3⟩ := thingB_app h (h1 x (by simp)) (h2 y (by simp))
    obtain ⟨e2, h⟩ := things_app (by simpa using hl) h3 (fun z hz => h1 z (by simp [hz])) (fun z hz => h2 z (by simp [hz]))
    exact ⟨by rw [e1, e2], h⟩
theorem wf_len_things {w : World} {s : Sl} {l : List ThingL} (h : Things w s l) : wf64 (l.length : Int) := by
  have h1 := h.2.1
  have h2 := h.2.2.2.2.1
  have h3 : (l.length : Int) ≤ 4398046510976 := by omega
  simp only [wf64, Lit.wf, IntKind.min, IntKind.max, IntKind.signed, IntKind.bits]
  simp
  omega
theorem encU_app {w w' : World} {a b : Sl} {l m : List ThingL} {r s : List UInt8} (h : encU l ++ r = encU m ++ s) (hl : Things w a l) (hm : Things w' b m) : l = m ∧ r = s := by
  simp only [encU, List.append_assoc] at h
  obtain ⟨h1, h⟩ := be8_app h (wf_len_things hl) (wf_len_things hm)
  exact things_app (by exact_mod_cast h1) h hl.2.2.2.2.2 hm.2.2.2.2.2
theorem wf8_64 {n : Int} (h : wf8 n) : wf64 n := by
  simp only [wf8, wf64, Lit.wf, IntKind.min, IntKind.max, IntKind.signed, IntKind.bits] at *
  simp at *
  omega
theorem sideB_app {w w' : World} {x y : SideVP} {h h' : SideVH} {r s : List UInt8} (e : sideB x ++ r = sideB y ++ s) (a : SideVAt w x h) (b : SideVAt w' y h') : x = y ∧ r = s := by
  simp only [sideB, List.append_assoc] at e
  obtain ⟨e1, e⟩ := be8_app e a.life b.life
  obtain ⟨e2, e⟩ := be8_app e a.mana b.mana
  obtain ⟨e3, e⟩ := be8_app e a.most b.most
  obtain ⟨e4, e⟩ := be8_app e a.deckSize b.deckSize
  obtain ⟨e5, e⟩ := be8_app e a.handSize b.handSize
  obtain ⟨e6, e⟩ := encL_app e a.deck b.deck
  obtain ⟨e7, e⟩ := encL_app e a.hand b.hand
  obtain ⟨e8, e⟩ := encL_app e a.grave b.grave
  obtain ⟨e9, e⟩ := encU_app e a.units b.units
  obtain ⟨e10, ez⟩ := encL_app e a.told b.told
  clear a b
  obtain ⟨_, _, _, _, _, _, _, _, _, _⟩ := x
  obtain ⟨_, _, _, _, _, _, _, _, _, _⟩ := y
  dsimp only at *
  subst e1 e2 e3 e4 e5 e6 e7 e8 e9 e10
  exact ⟨rfl, ez⟩
theorem viewB_inj {w w' : World} {p q : ViewP} {h h' : ViewH} (e : viewB p = viewB q) (a : ViewAt w p h) (b : ViewAt w' q h') : p = q := by
  have e : viewB p ++ [] = viewB q ++ [] := by rw [e]
  simp only [viewB, headB, List.append_assoc] at e
  obtain ⟨e1, e⟩ := be8_app e a.turn b.turn
  obtain ⟨e2, e⟩ := be8_app e a.mover b.mover
  obtain ⟨e3, e⟩ := be8_app e (wf8_64 a.phase) (wf8_64 b.phase)
  obtain ⟨e4, e⟩ := tr1_app e
  obtain ⟨e5, e⟩ := be8_app e (wf8_64 a.result) (wf8_64 b.result)
  obtain ⟨e6, e⟩ := encL_app e a.attack b.attack
  obtain ⟨e7, e⟩ := be8_app e a.next b.next
  obtain ⟨e8, e⟩ := sideB_app e a.x b.x
  obtain ⟨e9, e⟩ := sideB_app e a.y b.y
  clear a b
  obtain ⟨_, _, _, _, _, _, _, _, _⟩ := p
  obtain ⟨_, _, _, _, _, _, _, _, _⟩ := q
  dsimp only at *
  subst e1 e2 e3 e4 e5 e6 e7 e8 e9
  rfl
theorem viewB_eq {w w' : World} {p q : ViewP} {h h' : ViewH} (a : ViewAt w p h) (b : ViewAt w' q h') : (viewB p == viewB q) = decide (p = q) := by
  rw [Bool.eq_iff_iff]
  simp only [beq_iff_eq, decide_eq_true_eq]
  exact ⟨fun e => viewB_inj e a b, fun e => by rw [e]⟩
end Go.Proofs.Ytiglljegpdlnmaa

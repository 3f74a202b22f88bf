/- Package image, writing: a side, a state, an action. -/
import Derived.Test.YtdokkhjgmhcpkaaImWThing
namespace Go.Proofs.Ytdokkhjgmhcpkaa
open Go.RowKit
set_option linter.unusedVariables false
set_option linter.unusedSimpArgs false
set_option maxRecDepth 20000

theorem encL_len (l : List Int) : (encL l).length = 8 + 8 * l.length := by
  unfold encL
  rw [List.length_append, be8_length, enc_len be8_length]
theorem encU_len (l : List ThingL) : (encU l).length = 8 + 25 * l.length := by
  unfold encU
  rw [List.length_append, be8_length, enc_len (n := 25) (fun x => by simp [thingB, be8_length, tr1])]
theorem encP_len (l : List PairL) : (encP l).length = 8 + 16 * l.length := by
  unfold encP
  rw [List.length_append, be8_length, enc_len (n := 16) (fun x => by simp [pairB, be8_length])]
/-- A row that lies below B. -/
def InB (B : Nat) (a : Option Addr) (n : Nat) : Prop := 0 < n → ∀ ad, a = some ad → ad.block < B
theorem InB.mono {B B' : Nat} {a : Option Addr} {n : Nat} (h : InB B a n) (hB : B ≤ B') : InB B' a n := fun h1 ad h2 => Nat.lt_of_lt_of_le (h h1 ad h2) hB
theorem RowAt.low {w w' : World} {B : Nat} {a : Option Addr} {vs : List Value} {n : Nat} (h : RowAt w a vs) (hi : InB B a n) (hn : n = 0 → vs = []) (hb : Below B w w') : RowAt w' a vs := fun i hi2 => by
  obtain ⟨b, o, e, hc⟩ := h i hi2
  have hp : 0 < n := by
    rcases Nat.eq_zero_or_pos n with h0 | h0
    · rw [hn h0] at hi2; simp at hi2
    · exact h0
  exact ⟨b, o, e, (World.cell?_of_block (a := ⟨b, o + i, none⟩) (hb.block b (hi hp _ e))).trans hc⟩
theorem Ints.low {w w' : World} {B : Nat} {s : Sl} {l : List Int} (h : Ints w s l) (hi : InB B s.a s.n) (hb : Below B w w') : Ints w' s l :=
  ⟨RowAt.low h.1 hi (fun h0 => by have := h.2.1; rw [h0] at this; rw [List.eq_nil_of_length_eq_zero this]; rfl) hb, h.2⟩
theorem Things.low {w w' : World} {B : Nat} {s : Sl} {l : List ThingL} (h : Things w s l) (hi : InB B s.a s.n) (hb : Below B w w') : Things w' s l :=
  ⟨RowAt.low h.1 hi (fun h0 => by have := h.2.1; rw [h0] at this; rw [List.eq_nil_of_length_eq_zero this]; rfl) hb, h.2⟩
theorem Pairs.low {w w' : World} {B : Nat} {s : Sl} {l : List PairL} (h : Pairs w s l) (hi : InB B s.a s.n) (hb : Below B w w') : Pairs w' s l :=
  ⟨RowAt.low h.1 hi (fun h0 => by have := h.2.1; rw [h0] at this; rw [List.eq_nil_of_length_eq_zero this]; rfl) hb, h.2⟩
theorem Ints.inB {w : World} {s : Sl} {l : List Int} (h : Ints w s l) : InB w.heap.size s.a s.n := fun hn ad ha => by
  obtain ⟨b, o, e, hc⟩ := h.1 0 (by have := h.2.1; simp; omega)
  rw [ha] at e
  cases e
  exact World.block_lt_of_cell? w _ hc
theorem Pairs.inB {w : World} {s : Sl} {l : List PairL} (h : Pairs w s l) : InB w.heap.size s.a s.n := fun hn ad ha => by
  have hl : (l.flatMap PairL.cells).length = 2 * l.length := by
    have e : ∀ l : List PairL, (l.flatMap PairL.cells).length = 2 * l.length := fun l => by
      induction l with
      | nil => rfl
      | cons x l ih => rw [List.flatMap_cons, List.length_append, ih, List.length_cons]; show 2 + _ = _; omega
    exact e l
  obtain ⟨b, o, e, hc⟩ := h.1 0 (by have := h.2.1; omega)
  rw [ha] at e
  cases e
  exact World.block_lt_of_cell? w _ hc
theorem Things.inB {w : World} {s : Sl} {l : List ThingL} (h : Things w s l) : InB w.heap.size s.a s.n := fun hn ad ha => by
  have hl : (l.flatMap ThingL.cells).length = 4 * l.length := by
    have e : ∀ l : List ThingL, (l.flatMap ThingL.cells).length = 4 * l.length := fun l => by
      induction l with
      | nil => rfl
      | cons x l ih => rw [List.flatMap_cons, List.length_append, ih, List.length_cons]; show 4 + _ = _; omega
    exact e l
  obtain ⟨b, o, e, hc⟩ := h.1 0 (by have := h.2.1; omega)
  rw [ha] at e
  cases e
  exact World.block_lt_of_cell? w _ hc
/-- The cells of a row of things may be written. -/
def FreeU (w : World) (s : Sl) : Prop := ∀ ad, s.a = some ad → ∀ i, i < s.n * 4 → w.frozen? ⟨ad.block, ad.off + i, none⟩ = false
theorem FreeU.low {w w' : World} {B : Nat} {s : Sl} (h : FreeU w s) (hi : InB B s.a s.n) (hb : Below B w w') : FreeU w' s := fun ad ha i hi2 =>
  (frozen_of_block (hb.block _ (hi (by omega) ad ha))).trans (h ad ha i hi2)
/-- A side whose rows lie below B. -/
structure SideIn (w : World) (B : Nat) (p : SideP) (h : SideH) : Prop where
  at' : SideAt w p h
  deck : InB B h.deck.a h.deck.n
  hand : InB B h.hand.a h.hand.n
  grave : InB B h.grave.a h.grave.n
  units : InB B h.units.a h.units.n
  told : InB B h.told.a h.told.n
  free : FreeU w h.units
theorem SideIn.low {w w' : World} {B : Nat} {p : SideP} {h : SideH} (a : SideIn w B p h) (hb : Below B w w') : SideIn w' B p h :=
  ⟨⟨a.at'.life, a.at'.mana, a.at'.most, a.at'.deck.low a.deck hb, a.at'.hand.low a.hand hb, a.at'.grave.low a.grave hb, a.at'.units.low a.units hb, a.at'.told.low a.told hb⟩, a.deck, a.hand, a.grave, a.units, a.told, a.free.low a.units hb⟩
theorem SideIn.of {w : World} {p : SideP} {h : SideH} (a : SideAt w p h) (hf : FreeU w h.units) : SideIn w w.heap.size p h := ⟨a, a.deck.inB, a.hand.inB, a.grave.inB, a.units.inB, a.told.inB, hf⟩
theorem SideIn.mono {w : World} {B B' : Nat} {p : SideP} {h : SideH} (a : SideIn w B p h) (hB : B ≤ B') : SideIn w B' p h := ⟨a.at', a.deck.mono hB, a.hand.mono hB, a.grave.mono hB, a.units.mono hB, a.told.mono hB, a.free⟩
theorem InB.off {w : World} {B : Nat} {q : WC} (hq : WAt w B q) {s : Sl} {n : Nat} (hn : n = s.n) (h : InB B s.a s.n) {α : Type} {l : List α} (hl : l.length = s.n) : l ≠ [] → ∀ ad, s.a = some ad → ¬ wfoot q ad.block := fun hne ad ha hf => by
  have h1 := (hq.lt hf).1
  have h2 := h (by have := List.length_pos_iff.2 hne; omega) ad ha
  omega
abbrev LT := Nat × Sl × List Int
def SideW (w : World) (B : Nat) (q : WC) (ls : List LT) (f : Nat) (v : Value) (wr : World) : Prop :=
  ∃ (k : Nat) (q' : WC), k + f = 3 ∧ v = .int .i64 (k : Int) ∧ Hid (q'.bs = q.bs ++ (ls.take k).flatMap fun x => encL x.2.2) ∧ WStep B w q wr q'
set_option maxHeartbeats 4000000 in
theorem side_w (w : World) (B : Nat) (q : WC) (b o : Nat) (p : SideP) (h : SideH) (hq : WAt w B q) (hB : B ≤ w.heap.size) (hx : CellsAt w b o (sideCells p h)) (ha : SideIn w B p h) (hb : b < B) (hz : q.bs.length + 2 * (sideI p).length + 1000 < 1000000000000) :
    Calls Try.prog 47 #[.pointer (some ⟨q.c, 0, none⟩), .pointer (some ⟨b, o, none⟩)] w fun e w' => e = .returned (.tuple #[]) ∧ ∃ q', Hid (q'.bs = q.bs ++ sideI p) ∧ WStep B w q w' q' := by
  have hmf : ∀ (fn : Fn) (first cap : Array Value) (w : World), (Instr.makeFunc fn first cap).run Try.prog w = .ok (.func fn first cap) w := fun _ _ _ _ => rfl
  have hlen : (sideI p).length = 64 + 8 * p.deck.length + 8 * p.hand.length + 8 * p.grave.length + 25 * p.units.length + 8 * p.told.length := by
    simp only [sideI, List.length_append, be8_length, encL_len, encU_len]
    omega
  have HLEN := Lib.hid hlen
  rw [hlen] at hz
  clear hlen
  have x0 : w.cell? ⟨b, o, none⟩ = some (.int .i64 p.life) := hx 0 (by show 0 < 8; omega)
  have x1 : w.cell? ⟨b, o + 1, none⟩ = some (.int .i64 p.mana) := hx 1 (by show 1 < 8; omega)
  have x2 : w.cell? ⟨b, o + 2, none⟩ = some (.int .i64 p.most) := hx 2 (by show 2 < 8; omega)
  have x3 : w.cell? ⟨b, o + 3, none⟩ = some (.slice h.deck.a h.deck.n h.deck.c) := hx 3 (by show 3 < 8; omega)
  have x4 : w.cell? ⟨b, o + 4, none⟩ = some (.slice h.hand.a h.hand.n h.hand.c) := hx 4 (by show 4 < 8; omega)
  have x5 : w.cell? ⟨b, o + 5, none⟩ = some (.slice h.grave.a h.grave.n h.grave.c) := hx 5 (by show 5 < 8; omega)
  have x6 : w.cell? ⟨b, o + 6, none⟩ = some (.slice h.units.a h.units.n h.units.c) := hx 6 (by show 6 < 8; omega)
  have x7 : w.cell? ⟨b, o + 7, none⟩ = some (.slice h.told.a h.told.n h.told.c) := hx 7 (by show 7 < 8; omega)
  have hbl := World.block_lt_of_cell? w _ x0
  have hoff : ∀ {W : World} {Q : WC}, WAt W B Q → ¬ wfoot Q b := fun hQ hf => by have := (hQ.lt hf).1; omega
  have hf := hoff hq
  clear hx
  obtain ⟨life, mana, most, deck, hand, grave, units, told⟩ := p
  dsimp only at x0 x1 x2 hz
  go_enter Try.func47, Try.ntmps47
  go_wp2_with fail
  refine wp_region_treeR false (KeepAt (fun _ => False)) (KeepAt.refl _) (fun _ _ _ h1 h2 => KeepAt.trans h1 h2) (.step 0 (.step 1 (.step 2 (.step 3 (.step 4 (.step 5 (.step 6 (.step 7 (.step 8 (.step 9 (.step 10 (.step 11 .done)))))))))))) (by kernel_rfl) (by kernel_rfl) (fun c a d v w h => by cases d <;> exact h) ?_
  repeat (first | (refine tree_skip rfl (by rfl) ?_; simp only [Act.put, List.setIfInBounds_toArray, List.set]) | (refine tree_quiet (v := ?_) rfl rfl (by rfl) ?_ ?_; rotate_left; (intro W hW; go_simp); (try with_reducible rfl); simp only [Act.put, List.setIfInBounds_toArray, List.set]))
  refine tree_loud rfl rfl (by rfl) (fun K hK => ?_); go_wp2_with fail
  refine hK _ _ ⟨by simp, fun _ h => h.elim⟩ ?_
  clear hK K
  repeat (first | (refine tree_skip rfl (by rfl) ?_; simp only [Act.put, List.setIfInBounds_toArray, List.set]) | (refine tree_quiet (v := ?_) rfl rfl (by rfl) ?_ ?_; rotate_left; (intro W hW; go_simp); (try with_reducible rfl); simp only [Act.put, List.setIfInBounds_toArray, List.set]))
  refine tree_loud rfl rfl (by rfl) (fun K hK => ?_); go_wp2_with fail
  have hb1 : Below w.heap.size w (w.alloc (.cells #[.pointer (some ⟨b, o, none⟩), .pointer (some ⟨b, o + 1, none⟩), .pointer (some ⟨b, o + 2, none⟩)] 80)).drew := by (try unfold Kept); repeat (first | assumption | exact Below.refl _ _ | exact below_undrew (Below.refl _ _) | exact Below.mono (by assumption) (by first | (simp; done) | (simp; omega) | omega) | refine below_setRow ?_ (by first | (simp; done) | (simp; omega) | omega) _ | refine Below.setCell ?_ (by first | (simp; done) | (simp; omega) | omega) _ | refine Below.alloc ?_ (by first | (simp; done) | (simp; omega) | omega) _ | refine below_drewN ?_ _ | refine Below.drew ?_ | refine below_undrew ?_ | refine below_step ?_ (by assumption))
  have cb := nums_w _ B q w.heap.size 3 [(b, o, life), (b, o + 1, mana), (b, o + 2, most)] (hq.old hb1) (Nat.le_trans hB hb1.size) (Blk.new w #[.pointer (some ⟨b, o, none⟩), .pointer (some ⟨b, o + 1, none⟩), .pointer (some ⟨b, o + 2, none⟩)] 80).drew hq.fresh rfl (fun x hx => by
    simp only [List.mem_cons, List.mem_nil_iff, or_false] at hx
    rcases hx with rfl | rfl | rfl
    · exact ⟨by rw [hb1.cell (p := ⟨b, _, none⟩) hbl]; exact x0, hf⟩
    · exact ⟨by rw [hb1.cell (p := ⟨b, _, none⟩) hbl]; exact x1, hf⟩
    · exact ⟨by rw [hb1.cell (p := ⟨b, _, none⟩) hbl]; exact x2, hf⟩) (by omega)
  refine cb.mono ?_
  clear cb
  rintro e w2 ⟨rfl, q2, hbs2, hs2⟩
  have hz2 := hs2.turn.size
  replace hs2 := hs2.pre hb1
  go_wp2_with fail
  refine hK _ _ ⟨by simpa using hz2, fun _ h => h.elim⟩ ?_
  clear hK K
  refine tree_done ?_
  obtain ⟨ls, hls⟩ : ∃ ls : List LT, ls = [(o + 3, h.deck, deck), (o + 4, h.hand, hand), (o + 5, h.grave, grave)] := ⟨_, rfl⟩
  have hLS : ls.length = 3 := by rw [hls]; rfl
  have hlk : ∀ x ∈ ls, w2.cell? ⟨b, x.1, none⟩ = some (.slice x.2.1.a x.2.1.n x.2.1.c) ∧ Ints w2 x.2.1 x.2.2 ∧ InB B x.2.1.a x.2.1.n ∧ x.2.2.length ≤ deck.length + hand.length + grave.length := by
    have ha2 := ha.low (hs2.below hq hB)
    intro x hx
    rw [hls] at hx
    simp only [List.mem_cons, List.mem_nil_iff, or_false] at hx
    rcases hx with rfl | rfl | rfl
    · exact ⟨hs2.cell x3 hf, ha2.at'.deck, ha2.deck, by simp; omega⟩
    · exact ⟨hs2.cell x4 hf, ha2.at'.hand, ha2.hand, by simp; omega⟩
    · exact ⟨hs2.cell x5 hf, ha2.at'.grave, ha2.grave, by simp⟩
  have hsum : ∀ k, ((ls.take k).flatMap fun x => encL x.2.2).length ≤ 24 + 8 * deck.length + 8 * hand.length + 8 * grave.length := by
    intro k
    rw [hls]
    match k with
    | 0 => simp
    | 1 => simp [encL_len]; omega
    | 2 => simp [encL_len]; omega
    | n + 3 => simp [encL_len]; omega
  have hfin : (ls.flatMap fun x => encL x.2.2) = encL deck ++ encL hand ++ encL grave := by rw [hls]; simp
  have hcells : #[Value.pointer (some ⟨b, o + 3, none⟩), .pointer (some ⟨b, o + 4, none⟩), .pointer (some ⟨b, o + 5, none⟩)] = (ls.map fun x : LT => Value.pointer (some ⟨b, x.1, none⟩)).toArray := by rw [hls]; rfl
  have HC := Lib.hid hcells
  have HS2 := Lib.hid hsum
  have HF := Lib.hid hfin
  have HLL := Lib.hid hLS
  clear hls hcells hsum hfin hLS x3 x4 x5
  go_upto_region 1 with (fail)
  refine wp_region_treeR false (KeepAt (fun _ => False)) (KeepAt.refl _) (fun _ _ _ h1 h2 => KeepAt.trans h1 h2) (.step 0 (.step 1 (.step 2 (.step 3 (.step 4 (.step 5 (.step 6 (.step 7 (.step 8 (.step 11 (.step 9 (.step 10 .done)))))))))))) (by kernel_rfl) (by kernel_rfl) (fun c a d v w h => by cases d <;> exact h) ?_
  repeat (first | (refine tree_skip rfl (by rfl) ?_; simp only [Act.put, List.setIfInBounds_toArray, List.set]) | (refine tree_quiet (v := ?_) rfl rfl (by rfl) ?_ ?_; rotate_left; (intro W hW; go_simp); (try with_reducible rfl); simp only [Act.put, List.setIfInBounds_toArray, List.set]))
  refine tree_loud rfl rfl (by rfl) (fun K hK => ?_); go_wp2_with fail
  refine hK _ _ ⟨by simp, fun _ h => h.elim⟩ ?_
  clear hK K
  repeat (first | (refine tree_skip rfl (by rfl) ?_; simp only [Act.put, List.setIfInBounds_toArray, List.set]) | (refine tree_quiet (v := ?_) rfl rfl (by rfl) ?_ ?_; rotate_left; (intro W hW; go_simp); (try with_reducible rfl); simp only [Act.put, List.setIfInBounds_toArray, List.set]))
  refine tree_done ?_
  go_upto_region 2 with (fail)
  obtain ⟨g, hgd⟩ : ∃ g, g = w2.heap.size := ⟨_, rfl⟩
  rw [← hgd]
  have hB2 := Nat.le_trans hB hs2.turn.size
  refine wp_forget (fun W => Blk W g (ls.map fun x : LT => Value.pointer (some ⟨b, x.1, none⟩)).toArray 86 ∧ Below w2.heap.size w2 W) ⟨by rw [hgd, ← HC.out]; exact (Blk.new w2 _ _).drew, by (try unfold Kept); repeat (first | assumption | exact Below.refl _ _ | exact below_undrew (Below.refl _ _) | exact Below.mono (by assumption) (by first | (simp; done) | (simp; omega) | omega) | refine below_setRow ?_ (by first | (simp; done) | (simp; omega) | omega) _ | refine Below.setCell ?_ (by first | (simp; done) | (simp; omega) | omega) _ | refine Below.alloc ?_ (by first | (simp; done) | (simp; omega) | omega) _ | refine below_drewN ?_ _ | refine Below.drew ?_ | refine below_undrew ?_ | refine below_step ?_ (by assumption))⟩ ?_
  rintro W3 ⟨hg3, hb3⟩
  have hgf : ¬ wfoot q2 g := by rw [hgd]; exact hs2.at'.fresh
  have HGD := Lib.hid hgd
  clear hgd
  have hs3 := hs2.trans (WStep.old hs2.at' hb3)
  have hq3 := hs2.at'.old hb3
  have hl3 : ∀ x ∈ ls, W3.cell? ⟨b, x.1, none⟩ = some (.slice x.2.1.a x.2.1.n x.2.1.c) ∧ Ints W3 x.2.1 x.2.2 ∧ InB B x.2.1.a x.2.1.n ∧ x.2.2.length ≤ deck.length + hand.length + grave.length := fun x hx => by
    obtain ⟨h1, h2, h3, h4⟩ := hlk x hx
    exact ⟨by rw [hb3.cell (p := ⟨b, x.1, none⟩) (World.block_lt_of_cell? w2 _ h1)]; exact h1, h2.old hb3, h3, h4⟩
  have hb2l : q2.bs.length = q.bs.length + 24 := by rw [hbs2.out]; simp [be8_length]
  have HB2L := Lib.hid hb2l
  clear hlk hb2l
  go_loopg [29] 3 (SideW W3 B q2 ls)
  case atStart => exact ⟨0, q2, rfl, rfl, Lib.hid (by simp), WStep.refl hq3⟩
  case round =>
    obtain ⟨k, q', hk, rfl, hbs, hs⟩ := hrel
    have hc' : q'.c = q.c := hs.c.trans hs3.c
    by_cases hlt : k < 3
    · have t0 : decide ((k : Int) < 3) = true := by simp; omega
      have hkl : k < ls.length := by rw [HLL.out]; exact hlt
      obtain ⟨hc, hi, hin, hle⟩ := hl3 ls[k] (List.getElem_mem hkl)
      have cg : wr.cell? ⟨g, k, none⟩ = some (.pointer (some ⟨b, (ls[k]).1, none⟩)) := by
        rw [(hs.blk hg3 hgf).1.rule]
        simp [hkl]
      have HT := Lib.hid (List.take_succ_eq_append_getElem hkl)
      generalize ls[k] = x at *
      obtain ⟨xo, sl, xl⟩ := x
      dsimp only at hc hi hin hle cg HT
      have hir := hi.low hin (hs.below hq3 (Nat.le_trans hB2 hb3.size))
      have hl2 := HS2.out k
      have cb := list_int_w wr B q' b xo sl xl hs.at' (Nat.le_trans (Nat.le_trans hB2 hb3.size) hs.turn.size) (hs.cell hc (hoff hq3)) hir (hoff hs.at') (InB.off hs.at' rfl hin hi.2.1) (by
        have h1 := hi.2.1
        rw [hbs.out, List.length_append, HB2L.out]
        omega)
      rw [hc'] at cb
      clear hc hi hir hl2
      go_wp2_with fail
      refine cb.mono ?_
      clear cb
      rintro e w4 ⟨rfl, q4, hbs4, hs4⟩
      have HB3 := Lib.hid (show q4.bs = q2.bs ++ (ls.take (k + 1)).flatMap fun x => encL x.2.2 by rw [hbs4.out, hbs.out, HT.out, List.flatMap_append]; simp [encL])
      have hs04 := hs.trans hs4
      go_wp2_with fail
      go_roundg (gk - 1)
      case measure => omega
      case rel => exact ⟨k + 1, q4, by omega, by go_num, HB3, hs04⟩
    · have hk3 : k = 3 := by omega
      subst hk3
      have hbq : q'.bs = q2.bs ++ (encL deck ++ encL hand ++ encL grave) := by rw [hbs.out, List.take_of_length_le (Nat.le_of_eq HLL.out), HF.out]
      have hlq : q'.bs.length = q.bs.length + 48 + 8 * deck.length + 8 * hand.length + 8 * grave.length := by
        rw [hbq]
        simp only [List.length_append, encL_len, HB2L.out]
        omega
      have hs03 := hs3.trans hs
      have haw := ha.low (hs03.below hq hB)
      have x6r := hs03.cell x6 hf
      have x7r := hs03.cell x7 hf
      have hBr := Nat.le_trans hB hs03.turn.size
      have hu := haw.at'.units
      have hul := hu.2.1
      dsimp only at hu hul
      have cb := list_thing_w wr B q' b (o + 6) h.units units hs.at' hBr x6r hu (hoff hs.at') (InB.off hs.at' rfl haw.units hul) haw.free (by omega)
      rw [hc'] at cb
      have HBQ := Lib.hid hbq
      have HLQ := Lib.hid hlq
      clear hbq hlq hl3 hu
      go_wp2_with fail
      refine cb.mono ?_
      clear cb
      rintro e w5 ⟨rfl, q5, hbs5, hs5⟩
      have hc5 : q5.c = q.c := hs5.c.trans hc'
      have hs05 := hs03.trans hs5
      have haw5 := ha.low (hs05.below hq hB)
      have x7s := hs05.cell x7 hf
      have ht := haw5.at'.told
      have htl := ht.2.1
      dsimp only at ht htl
      have cb := list_int_w w5 B q5 b (o + 7) h.told told hs5.at' (Nat.le_trans hB hs05.turn.size) x7s ht (hoff hs5.at') (InB.off hs5.at' rfl haw5.told htl) (by
        rw [hbs5.out, List.length_append, ← encU, encU_len, HLQ.out]
        omega)
      rw [hc5] at cb
      clear ht
      go_wp2_with fail
      refine cb.mono ?_
      clear cb
      rintro e w6 ⟨rfl, q6, hbs6, hs6⟩
      go_wp2_with fail
      refine bodyPost_end (v := .tuple #[]) (results_none rfl _ _ _) rfl ⟨rfl, q6, Lib.hid ?_, hs05.trans hs6⟩
      rw [hbs6.out, hbs5.out, HBQ.out, hbs2.out]
      simp [sideI, encL, encU]
theorem tr1_len (b : Bool) : (tr1 b).length = 1 := rfl
structure StateIn (w : World) (B : Nat) (p : StateP) (h : StateH) : Prop where
  turn : wf64 p.turn
  mover : wf64 p.mover
  phase : wf8 p.phase
  result : wf8 p.result
  next : wf64 p.next
  attack : Ints w h.attack p.attack
  attackB : InB B h.attack.a h.attack.n
  x : SideIn w B p.x h.x
  y : SideIn w B p.y h.y
theorem StateIn.low {w w' : World} {B : Nat} {p : StateP} {h : StateH} (a : StateIn w B p h) (hb : Below B w w') : StateIn w' B p h :=
  ⟨a.turn, a.mover, a.phase, a.result, a.next, a.attack.low a.attackB hb, a.attackB, a.x.low hb, a.y.low hb⟩
theorem StateIn.of {w : World} {p : StateP} {h : StateH} (a : StateAt w p h) (hx : FreeU w h.x.units) (hy : FreeU w h.y.units) : StateIn w w.heap.size p h := ⟨a.turn, a.mover, a.phase, a.result, a.next, a.attack, a.attack.inB, SideIn.of a.x hx, SideIn.of a.y hy⟩
theorem StateIn.mono {w : World} {B B' : Nat} {p : StateP} {h : StateH} (a : StateIn w B p h) (hB : B ≤ B') : StateIn w B' p h := ⟨a.turn, a.mover, a.phase, a.result, a.next, a.attack, a.attackB.mono hB, a.x.mono hB, a.y.mono hB⟩
theorem cells_part {w : World} {b o : Nat} {l : List Value} (h : CellsAt w b o l) (k n : Nat) : CellsAt w b (o + k) ((l.drop k).take n) := fun j hj => by
  have h1 : j < l.length - k ∧ j < n := by rw [List.length_take, List.length_drop] at hj; omega
  have := h (k + j) (by omega)
  rw [← Nat.add_assoc] at this
  rw [this]
  simp
set_option maxHeartbeats 4000000 in
theorem state_w (w : World) (B : Nat) (q : WC) (b : Nat) (p : StateP) (h : StateH) (hq : WAt w B q) (hB : B ≤ w.heap.size) (hx : Blk w b (stateCells p h).toArray 29) (ha : StateIn w B p h) (hb : b < B) (hz : q.bs.length + 2 * (stateI p).length + 2000 < 1000000000000) :
    Calls Try.prog 22 #[.pointer (some ⟨q.c, 0, none⟩), .pointer (some ⟨b, 0, none⟩)] w fun e w' => e = .returned (.tuple #[]) ∧ ∃ q', Hid (q'.bs = q.bs ++ stateI p) ∧ WStep B w q w' q' := by
  have hmf : ∀ (fn : Fn) (first cap : Array Value) (w : World), (Instr.makeFunc fn first cap).run Try.prog w = .ok (.func fn first cap) w := fun _ _ _ _ => rfl
  have hlen : (stateI p).length = 49 + 8 * p.attack.length + (sideI p.x).length + (sideI p.y).length := by
    simp only [stateI, List.length_append, be8_length, encL_len, tr1_len]
    omega
  rw [hlen] at hz
  clear hlen
  have hxc : CellsAt w b 0 (stateCells p h) := fun j hj => by rw [Nat.zero_add, hx.rule j]; simp [hj]
  have x0 : w.cell? ⟨b, 0, none⟩ = some (.int .i64 p.turn) := hx.rule 0
  have x1 : w.cell? ⟨b, 1, none⟩ = some (.int .i64 p.mover) := hx.rule 1
  have x2 : w.cell? ⟨b, 2, none⟩ = some (.int .i8 p.phase) := hx.rule 2
  have x3 : w.cell? ⟨b, 3, none⟩ = some (.bool p.struck) := hx.rule 3
  have x4 : w.cell? ⟨b, 4, none⟩ = some (.int .i8 p.result) := hx.rule 4
  have x5 : w.cell? ⟨b, 5, none⟩ = some (.slice h.attack.a h.attack.n h.attack.c) := hx.rule 5
  have x6 : w.cell? ⟨b, 6, none⟩ = some (.int .i64 p.next) := hx.rule 6
  have cx : CellsAt w b 7 (sideCells p.x h.x) := cells_part hxc 7 8
  have cy : CellsAt w b 15 (sideCells p.y h.y) := cells_part hxc 15 8
  have z2 : w.frozen? ⟨b, 2, none⟩ = false := hx.free 2
  have z3 : w.frozen? ⟨b, 3, none⟩ = false := hx.free 3
  have z4 : w.frozen? ⟨b, 4, none⟩ = false := hx.free 4
  have hbl := hx.lt
  have hoff : ∀ {W : World} {Q : WC}, WAt W B Q → ¬ wfoot Q b := fun hQ hf => by have := (hQ.lt hf).1; omega
  have hf := hoff hq
  clear hx hxc
  have hal := ha.attack.2.1
  obtain ⟨turn, mover, phase, struck, result, attack, next, X, Y⟩ := p
  dsimp only at *
  go_enter Try.func22, Try.ntmps22
  go_wp2_with fail
  refine wp_region_treeR false (KeepAt (fun _ => False)) (KeepAt.refl _) (fun _ _ _ h1 h2 => KeepAt.trans h1 h2) (.step 0 (.step 1 (.step 2 (.step 3 (.step 4 (.step 5 (.step 6 (.step 7 (.step 8 .done))))))))) (by kernel_rfl) (by kernel_rfl) (fun c a d v w h => by cases d <;> exact h) ?_
  repeat (first | (refine tree_skip rfl (by rfl) ?_; simp only [Act.put, List.setIfInBounds_toArray, List.set]) | (refine tree_quiet (v := ?_) rfl rfl (by rfl) ?_ ?_; rotate_left; (intro W hW; go_simp); (try with_reducible rfl); simp only [Act.put, List.setIfInBounds_toArray, List.set]))
  refine tree_loud rfl rfl (by rfl) (fun K hK => ?_); go_wp2_with fail
  refine hK _ _ ⟨by simp, fun _ h => h.elim⟩ ?_
  clear hK K
  repeat (first | (refine tree_skip rfl (by rfl) ?_; simp only [Act.put, List.setIfInBounds_toArray, List.set]) | (refine tree_quiet (v := ?_) rfl rfl (by rfl) ?_ ?_; rotate_left; (intro W hW; go_simp); (try with_reducible rfl); simp only [Act.put, List.setIfInBounds_toArray, List.set]))
  refine tree_loud rfl rfl (by rfl) (fun K hK => ?_); go_wp2_with fail
  have hb1 : Below w.heap.size w (w.alloc (.cells #[.pointer (some ⟨b, 0, none⟩), .pointer (some ⟨b, 1, none⟩)] 80)).drew := by (try unfold Kept); repeat (first | assumption | exact Below.refl _ _ | exact below_undrew (Below.refl _ _) | exact Below.mono (by assumption) (by first | (simp; done) | (simp; omega) | omega) | refine below_setRow ?_ (by first | (simp; done) | (simp; omega) | omega) _ | refine Below.setCell ?_ (by first | (simp; done) | (simp; omega) | omega) _ | refine Below.alloc ?_ (by first | (simp; done) | (simp; omega) | omega) _ | refine below_drewN ?_ _ | refine Below.drew ?_ | refine below_undrew ?_ | refine below_step ?_ (by assumption))
  have cb := nums_w _ B q w.heap.size 2 [(b, 0, turn), (b, 1, mover)] (hq.old hb1) (Nat.le_trans hB hb1.size) (Blk.new w #[.pointer (some ⟨b, 0, none⟩), .pointer (some ⟨b, 1, none⟩)] 80).drew hq.fresh rfl (fun x hx => by
    simp only [List.mem_cons, List.mem_nil_iff, or_false] at hx
    rcases hx with rfl | rfl
    · exact ⟨by rw [hb1.cell (p := ⟨b, _, none⟩) hbl]; exact x0, hf⟩
    · exact ⟨by rw [hb1.cell (p := ⟨b, _, none⟩) hbl]; exact x1, hf⟩) (by omega)
  refine cb.mono ?_
  clear cb
  rintro e w2 ⟨rfl, q2, hbs2, hs2⟩
  have hz2 := hs2.turn.size
  replace hs2 := hs2.pre hb1
  go_wp2_with fail
  refine hK _ _ ⟨by simpa using hz2, fun _ h => h.elim⟩ ?_
  clear hK K
  refine tree_done ?_
  have HB2 := Lib.hid (show q2.bs = q.bs ++ (be8 turn ++ be8 mover) by rw [hbs2.out]; simp)
  have hs02 := hs2
  have cb := small_w w2 B q2 b 2 phase hs02.at' (Nat.le_trans hB hs02.turn.size) (hs02.cell x2 hf) ((hs02.frozen hbl hf).trans z2) ha.phase (hoff hs02.at') (by rw [HB2.out]; simp only [List.length_append, be8_length, encL_len, tr1_len]; omega)
  rw [hs02.c] at cb
  go_wp2_with fail
  refine cb.mono ?_
  clear cb
  rintro e w3 ⟨rfl, q3, hbs3, hs3⟩
  have HB3 := Lib.hid (show q3.bs = q.bs ++ (be8 turn ++ be8 mover ++ be8 phase) by rw [hbs3.out, HB2.out]; simp [encL, encU, encP])
  have hs03 := hs02.trans hs3
  have cb := truth_w w3 B q3 b 3 struck hs03.at' (Nat.le_trans hB hs03.turn.size) (hs03.cell x3 hf) ((hs03.frozen hbl hf).trans z3) (hoff hs03.at') (by rw [HB3.out]; simp only [List.length_append, be8_length, encL_len, tr1_len]; omega)
  rw [hs03.c] at cb
  go_wp2_with fail
  refine cb.mono ?_
  clear cb
  rintro e w4 ⟨rfl, q4, hbs4, hs4⟩
  have HB4 := Lib.hid (show q4.bs = q.bs ++ (be8 turn ++ be8 mover ++ be8 phase ++ tr1 struck) by rw [hbs4.out, HB3.out]; simp [encL, encU, encP])
  have hs04 := hs03.trans hs4
  have cb := small_w w4 B q4 b 4 result hs04.at' (Nat.le_trans hB hs04.turn.size) (hs04.cell x4 hf) ((hs04.frozen hbl hf).trans z4) ha.result (hoff hs04.at') (by rw [HB4.out]; simp only [List.length_append, be8_length, encL_len, tr1_len]; omega)
  rw [hs04.c] at cb
  go_wp2_with fail
  refine cb.mono ?_
  clear cb
  rintro e w5 ⟨rfl, q5, hbs5, hs5⟩
  have HB5 := Lib.hid (show q5.bs = q.bs ++ (be8 turn ++ be8 mover ++ be8 phase ++ tr1 struck ++ be8 result) by rw [hbs5.out, HB4.out]; simp [encL, encU, encP])
  have hs05 := hs04.trans hs5
  have cb := list_int_w w5 B q5 b 5 h.attack attack hs05.at' (Nat.le_trans hB hs05.turn.size) (hs05.cell x5 hf) (ha.low (hs05.below hq hB)).attack (hoff hs05.at') (InB.off hs05.at' rfl ha.attackB hal) (by rw [HB5.out]; simp only [List.length_append, be8_length, encL_len, tr1_len]; omega)
  rw [hs05.c] at cb
  go_wp2_with fail
  refine cb.mono ?_
  clear cb
  rintro e w6 ⟨rfl, q6, hbs6, hs6⟩
  have HB6 := Lib.hid (show q6.bs = q.bs ++ (be8 turn ++ be8 mover ++ be8 phase ++ tr1 struck ++ be8 result ++ encL attack) by rw [hbs6.out, HB5.out]; simp [encL, encU, encP])
  have hs06 := hs05.trans hs6
  have cb := num_w w6 B q6 b 6 next hs06.at' (Nat.le_trans hB hs06.turn.size) (hs06.cell x6 hf) (hoff hs06.at') (by rw [HB6.out]; simp only [List.length_append, be8_length, encL_len, tr1_len]; omega)
  rw [hs06.c] at cb
  go_wp2_with fail
  refine cb.mono ?_
  clear cb
  rintro e w7 ⟨rfl, q7, hbs7, hs7⟩
  have HB7 := Lib.hid (show q7.bs = q.bs ++ (be8 turn ++ be8 mover ++ be8 phase ++ tr1 struck ++ be8 result ++ encL attack ++ be8 next) by rw [hbs7.out, HB6.out]; simp [encL, encU, encP])
  have hs07 := hs06.trans hs7
  have cb := side_w w7 B q7 b 7 X h.x hs07.at' (Nat.le_trans hB hs07.turn.size) (hs07.cells cx hf) (ha.low (hs07.below hq hB)).x hb (by rw [HB7.out]; simp only [List.length_append, be8_length, encL_len, tr1_len]; omega)
  rw [hs07.c] at cb
  go_wp2_with fail
  refine cb.mono ?_
  clear cb
  rintro e w8 ⟨rfl, q8, hbs8, hs8⟩
  have HB8 := Lib.hid (show q8.bs = q.bs ++ (be8 turn ++ be8 mover ++ be8 phase ++ tr1 struck ++ be8 result ++ encL attack ++ be8 next ++ sideI X) by rw [hbs8.out, HB7.out]; simp [encL, encU, encP])
  have hs08 := hs07.trans hs8
  have cb := side_w w8 B q8 b 15 Y h.y hs08.at' (Nat.le_trans hB hs08.turn.size) (hs08.cells cy hf) (ha.low (hs08.below hq hB)).y hb (by rw [HB8.out]; simp only [List.length_append, be8_length, encL_len, tr1_len]; omega)
  rw [hs08.c] at cb
  go_wp2_with fail
  refine cb.mono ?_
  clear cb
  rintro e w9 ⟨rfl, q9, hbs9, hs9⟩
  have HB9 := Lib.hid (show q9.bs = q.bs ++ (be8 turn ++ be8 mover ++ be8 phase ++ tr1 struck ++ be8 result ++ encL attack ++ be8 next ++ sideI X ++ sideI Y) by rw [hbs9.out, HB8.out]; simp [encL, encU, encP])
  have hs09 := hs08.trans hs9
  go_wp2_with fail
  refine bodyPost_end (v := .tuple #[]) (results_none rfl _ _ _) rfl ⟨rfl, q9, Lib.hid ?_, hs09⟩
  rw [HB9.out]
  simp [stateI]
structure ActionIn (w : World) (B : Nat) (p : ActionP) (h : ActionH) : Prop where
  at' : ActionAt w p h
  ids : InB B h.ids.a h.ids.n
  pairs : InB B h.pairs.a h.pairs.n
theorem ActionIn.low {w w' : World} {B : Nat} {p : ActionP} {h : ActionH} (a : ActionIn w B p h) (hb : Below B w w') : ActionIn w' B p h :=
  ⟨⟨a.at'.op, a.at'.side, a.at'.place, a.at'.target, a.at'.ids.low a.ids hb, a.at'.pairs.low a.pairs hb⟩, a.ids, a.pairs⟩
theorem ActionIn.of {w : World} {p : ActionP} {h : ActionH} (a : ActionAt w p h) : ActionIn w w.heap.size p h := ⟨a, a.ids.inB, a.pairs.inB⟩
theorem ActionIn.mono {w : World} {B B' : Nat} {p : ActionP} {h : ActionH} (a : ActionIn w B p h) (hB : B ≤ B') : ActionIn w B' p h := ⟨a.at', a.ids.mono hB, a.pairs.mono hB⟩
set_option maxHeartbeats 4000000 in
theorem action_w (w : World) (B : Nat) (q : WC) (b : Nat) (p : ActionP) (h : ActionH) (hq : WAt w B q) (hB : B ≤ w.heap.size) (hx : Blk w b (actionCells p h).toArray 41) (ha : ActionIn w B p h) (hb : b < B) (hz : q.bs.length + 2 * (actionI p).length + 2000 < 1000000000000) :
    Calls Try.prog 33 #[.pointer (some ⟨q.c, 0, none⟩), .pointer (some ⟨b, 0, none⟩)] w fun e w' => e = .returned (.tuple #[]) ∧ ∃ q', Hid (q'.bs = q.bs ++ actionI p) ∧ WStep B w q w' q' := by
  have hmf : ∀ (fn : Fn) (first cap : Array Value) (w : World), (Instr.makeFunc fn first cap).run Try.prog w = .ok (.func fn first cap) w := fun _ _ _ _ => rfl
  have hlen : (actionI p).length = 48 + 8 * p.ids.length + 16 * p.pairs.length := by
    simp only [actionI, List.length_append, be8_length, encL_len, encP_len]
    omega
  rw [hlen] at hz
  clear hlen
  have x0 : w.cell? ⟨b, 0, none⟩ = some (.int .i8 p.op) := hx.rule 0
  have x1 : w.cell? ⟨b, 1, none⟩ = some (.int .i64 p.side) := hx.rule 1
  have x2 : w.cell? ⟨b, 2, none⟩ = some (.int .i64 p.place) := hx.rule 2
  have x3 : w.cell? ⟨b, 3, none⟩ = some (.int .i64 p.target) := hx.rule 3
  have x4 : w.cell? ⟨b, 4, none⟩ = some (.slice h.ids.a h.ids.n h.ids.c) := hx.rule 4
  have x5 : w.cell? ⟨b, 5, none⟩ = some (.slice h.pairs.a h.pairs.n h.pairs.c) := hx.rule 5
  have z0 : w.frozen? ⟨b, 0, none⟩ = false := hx.free 0
  have hbl := hx.lt
  have hoff : ∀ {W : World} {Q : WC}, WAt W B Q → ¬ wfoot Q b := fun hQ hf => by have := (hQ.lt hf).1; omega
  have hf := hoff hq
  clear hx
  have hal := ha.at'.ids.2.1
  have hpl := ha.at'.pairs.2.1
  obtain ⟨op, side, place, target, ids, pairs⟩ := p
  dsimp only at *
  go_enter Try.func33, Try.ntmps33
  have cb := small_w w B q b 0 op hq hB x0 z0 ha.at'.op hf (by omega)
  go_wp2_with fail
  refine cb.mono ?_
  clear cb
  rintro e w1 ⟨rfl, q1, hbs1, hs1⟩
  have hc1 := hs1.c
  have hb1' := hs1.at'.blk.lt
  go_upto_region 1 with (fail)
  have y1 := hs1.cell x1 hf
  have y2 := hs1.cell x2 hf
  have y3 := hs1.cell x3 hf
  have hf1 := hoff hs1.at'
  have hbl1 := Nat.lt_of_lt_of_le hbl hs1.turn.size
  have hB1 := Nat.le_trans hB hs1.turn.size
  have hq1 := hs1.at'
  have hl1 : q1.bs.length = q.bs.length + 8 := by rw [hbs1.out, List.length_append, be8_length]
  refine wp_region_treeR false (KeepAt (fun _ => False)) (KeepAt.refl _) (fun _ _ _ h1 h2 => KeepAt.trans h1 h2) (.step 0 (.step 1 (.step 2 (.step 3 (.step 4 (.step 5 (.step 6 (.step 7 (.step 8 (.step 9 (.step 10 (.step 11 .done)))))))))))) (by kernel_rfl) (by kernel_rfl) (fun c a d v w h => by cases d <;> exact h) ?_
  repeat (first | (refine tree_skip rfl (by rfl) ?_; simp only [Act.put, List.setIfInBounds_toArray, List.set]) | (refine tree_quiet (v := ?_) rfl rfl (by rfl) ?_ ?_; rotate_left; (intro W hW; go_simp); (try with_reducible rfl); simp only [Act.put, List.setIfInBounds_toArray, List.set]))
  refine tree_loud rfl rfl (by rfl) (fun K hK => ?_); go_wp2_with fail
  refine hK _ _ ⟨by simp, fun _ h => h.elim⟩ ?_
  clear hK K
  repeat (first | (refine tree_skip rfl (by rfl) ?_; simp only [Act.put, List.setIfInBounds_toArray, List.set]) | (refine tree_quiet (v := ?_) rfl rfl (by rfl) ?_ ?_; rotate_left; (intro W hW; go_simp); (try with_reducible rfl); simp only [Act.put, List.setIfInBounds_toArray, List.set]))
  refine tree_loud rfl rfl (by rfl) (fun K hK => ?_); go_wp2_with fail
  have hb1 : Below w1.heap.size w1 (w1.alloc (.cells #[.pointer (some ⟨b, 1, none⟩), .pointer (some ⟨b, 2, none⟩), .pointer (some ⟨b, 3, none⟩)] 80)).drew := by (try unfold Kept); repeat (first | assumption | exact Below.refl _ _ | exact below_undrew (Below.refl _ _) | exact Below.mono (by assumption) (by first | (simp; done) | (simp; omega) | omega) | refine below_setRow ?_ (by first | (simp; done) | (simp; omega) | omega) _ | refine Below.setCell ?_ (by first | (simp; done) | (simp; omega) | omega) _ | refine Below.alloc ?_ (by first | (simp; done) | (simp; omega) | omega) _ | refine below_drewN ?_ _ | refine Below.drew ?_ | refine below_undrew ?_ | refine below_step ?_ (by assumption))
  have cb := nums_w _ B q1 w1.heap.size 3 [(b, 1, side), (b, 2, place), (b, 3, target)] (hq1.old hb1) (Nat.le_trans hB1 hb1.size) (Blk.new w1 #[.pointer (some ⟨b, 1, none⟩), .pointer (some ⟨b, 2, none⟩), .pointer (some ⟨b, 3, none⟩)] 80).drew hq1.fresh rfl (fun x hx => by
    simp only [List.mem_cons, List.mem_nil_iff, or_false] at hx
    rcases hx with rfl | rfl | rfl
    · exact ⟨by rw [hb1.cell (p := ⟨b, _, none⟩) hbl1]; exact y1, hf1⟩
    · exact ⟨by rw [hb1.cell (p := ⟨b, _, none⟩) hbl1]; exact y2, hf1⟩
    · exact ⟨by rw [hb1.cell (p := ⟨b, _, none⟩) hbl1]; exact y3, hf1⟩) (by omega)
  rw [hc1] at cb
  refine cb.mono ?_
  clear cb
  rintro e w2 ⟨rfl, q2, hbs2, hs2⟩
  have hz2 := hs2.turn.size
  replace hs2 := hs2.pre hb1
  go_wp2_with fail
  refine hK _ _ ⟨by simpa using hz2, fun _ h => h.elim⟩ ?_
  clear hK K
  refine tree_done ?_
  have hs02 := hs1.trans hs2
  have HB2 := Lib.hid (show q2.bs = q.bs ++ (be8 op ++ be8 side ++ be8 place ++ be8 target) by rw [hbs2.out, hbs1.out]; simp)
  have cb := list_int_w w2 B q2 b 4 h.ids ids hs02.at' (Nat.le_trans hB hs02.turn.size) (hs02.cell x4 hf) (ha.low (hs02.below hq hB)).at'.ids (hoff hs02.at') (InB.off hs02.at' rfl ha.ids hal) (by rw [HB2.out]; simp only [List.length_append, be8_length, encL_len, tr1_len]; omega)
  rw [hs02.c] at cb
  go_wp2_with fail
  refine cb.mono ?_
  clear cb
  rintro e w3 ⟨rfl, q3, hbs3, hs3⟩
  have HB3 := Lib.hid (show q3.bs = q.bs ++ (be8 op ++ be8 side ++ be8 place ++ be8 target ++ encL ids) by rw [hbs3.out, HB2.out]; simp [encL, encU, encP])
  have hs03 := hs02.trans hs3
  have cb := list_pair_w w3 B q3 b 5 h.pairs pairs hs03.at' (Nat.le_trans hB hs03.turn.size) (hs03.cell x5 hf) (ha.low (hs03.below hq hB)).at'.pairs (hoff hs03.at') (InB.off hs03.at' rfl ha.pairs hpl) (by rw [HB3.out]; simp only [List.length_append, be8_length, encL_len, tr1_len]; omega)
  rw [hs03.c] at cb
  go_wp2_with fail
  refine cb.mono ?_
  clear cb
  rintro e w4 ⟨rfl, q4, hbs4, hs4⟩
  have HB4 := Lib.hid (show q4.bs = q.bs ++ (be8 op ++ be8 side ++ be8 place ++ be8 target ++ encL ids ++ encP pairs) by rw [hbs4.out, HB3.out]; simp [encL, encU, encP])
  have hs04 := hs03.trans hs4
  go_wp2_with fail
  refine bodyPost_end (v := .tuple #[]) (results_none rfl _ _ _) rfl ⟨rfl, q4, Lib.hid ?_, hs04⟩
  rw [HB4.out]
  simp [actionI]
end Go.Proofs.Ytdokkhjgmhcpkaa

/- The document's bytes of a side, a state, an action. -/
import Derived.Test.YtdokkhjgmhcpkaaImRB
import Derived.Test.YtdokkhjgmhcpkaaThings
namespace Go.Proofs.Ytdokkhjgmhcpkaa
open Go.RowKit
set_option linter.unusedVariables false
set_option linter.unusedSimpArgs false
set_option maxRecDepth 20000

theorem OutB.get {B : Nat} {w w' : World} {e : Ending} {bs x : List UInt8} {k : Nat} (h : OutB B w (bs ++ x) e w') (hx : x.length = k) : ∃ (l : List UInt8) (a : Option Addr) (c : Nat), e = .returned (.slice a l.length c) ∧ Own w' B 5 1 a l.length c (l.map bv) ∧ Rx B 5 w w' ∧ Hid (l = bs ++ x) ∧ l.length ≤ bs.length + k := by
  obtain ⟨a, c, e1, h1, h2⟩ := h
  exact ⟨bs ++ x, a, c, e1, h1, h2, Lib.hid rfl, by rw [List.length_append, hx]; exact Nat.le_refl _⟩
theorem Rx.undrew {B : Nat} {T : TypeId} {w w' : World} (h : Rx B T w.drew w') : Rx B T w w' := ⟨⟨h.1.os, h.1.tape, h.1.output, h.1.size, h.1.block⟩, ⟨h.2.size, h.2.block⟩⟩
def UnitsB (w : World) (B : Nat) (bs : List UInt8) (l : List ThingL) (f : Nat) (v0 v5 : Value) (wr : World) : Prop :=
  ∃ (k : Nat) (a : Option Addr) (c : Nat) (cs : List UInt8), k + f = l.length ∧ v5 = .int .i64 (k : Int) ∧ v0 = .slice a cs.length c ∧ Hid (cs = bs ++ (l.take k).flatMap thingB) ∧ Own wr B 5 1 a cs.length c (cs.map bv) ∧ Rx B 5 w wr
set_option maxHeartbeats 4000000 in
theorem rside_any (w : World) (B : Nat) (a0 : Option Addr) (n c0 : Nat) (l0 : List UInt8) (p : SideP) (h : SideH) (hown : Own w B 5 1 a0 n c0 (l0.map bv)) (hn : l0.length = n) (hB : B ≤ w.heap.size) (ha : SideIn w B p h) (hz : n + (sideI p).length + 1000 < 100000000) :
    Calls Try.prog 39 #[.slice a0 n c0, sideVal p h] w (OutB B w (l0 ++ sideI p)) := by
  subst hn
  have hlen : (sideI p).length = 64 + 8 * p.deck.length + 8 * p.hand.length + 8 * p.grave.length + 25 * p.units.length + 8 * p.told.length := by
    simp only [sideI, List.length_append, be8_length, encL_len, encU_len]
    omega
  rw [hlen] at hz
  clear hlen
  obtain ⟨life, mana, most, deck, hand, grave, units, told⟩ := p
  dsimp only at hz
  have d1 : deck.length = h.deck.n := ha.at'.deck.2.1
  have d2 : hand.length = h.hand.n := ha.at'.hand.2.1
  have d3 : grave.length = h.grave.n := ha.at'.grave.2.1
  have d4 : units.length = h.units.n := ha.at'.units.2.1
  have d5 : told.length = h.told.n := ha.at'.told.2.1
  rw [d1, d2, d3, d4, d5] at hz
  have D1 := Lib.hid d1
  have D2 := Lib.hid d2
  have D3 := Lib.hid d3
  have D4 := Lib.hid d4
  have D5 := Lib.hid d5
  clear d1 d2 d3 d4 d5
  unfold sideVal
  dsimp only
  go_enter Try.func39, Try.ntmps39
  go_upto_region 1 with (fail)
  obtain ⟨X, hX⟩ : ∃ X, X = w.heap.size := ⟨_, rfl⟩
  rw [← hX]
  refine wp_forget (fun W => Blk W X (sideCells ⟨life, mana, most, deck, hand, grave, units, told⟩ h).toArray 26 ∧ Below w.heap.size w W) ⟨by rw [hX]; exact Blk.new w (sideCells ⟨life, mana, most, deck, hand, grave, units, told⟩ h).toArray _, by (try unfold Kept); repeat (first | assumption | exact Below.refl _ _ | exact below_undrew (Below.refl _ _) | exact Below.mono (by assumption) (by first | (simp; done) | (simp; omega) | omega) | refine below_setRow ?_ (by first | (simp; done) | (simp; omega) | omega) _ | refine Below.setCell ?_ (by first | (simp; done) | (simp; omega) | omega) _ | refine Below.alloc ?_ (by first | (simp; done) | (simp; omega) | omega) _ | refine below_drewN ?_ _ | refine Below.drew ?_ | refine below_undrew ?_ | refine below_step ?_ (by assumption))⟩ ?_
  rintro w0 ⟨hx0, hb0⟩
  clear hX
  have o0 := hown.old hb0
  have hB0 := Nat.le_trans hB hb0.size
  have R0 : Rx B 5 w w0 := Rx.old hb0 hB
  have ha0 := ha.low R0.1
  clear ha hown
  have x0 : ∀ W, Rx B 5 w0.drew W → W.cell? ⟨X, 0, none⟩ = some (.int .i64 life) := fun W hW => (hW.blk hx0.drew (by decide)).rule 0
  have x1 : ∀ W, Rx B 5 w0.drew W → W.cell? ⟨X, 1, none⟩ = some (.int .i64 mana) := fun W hW => (hW.blk hx0.drew (by decide)).rule 1
  have x2 : ∀ W, Rx B 5 w0.drew W → W.cell? ⟨X, 2, none⟩ = some (.int .i64 most) := fun W hW => (hW.blk hx0.drew (by decide)).rule 2
  refine wp_region_treeX B 5 (.step 0 (.step 1 (.step 2 (.step 4 (.step 5 (.step 7 (.step 8 (.step 3 (.step 6 (.step 9 (.step 10 .done))))))))))) (by kernel_rfl) (by kernel_rfl) (fun c a d v w h => by cases d <;> exact h) ?_
  repeat (first | (refine tree_skip rfl (by rfl) ?_; simp only [Act.put, List.setIfInBounds_toArray, List.set]) | (refine tree_quiet (v := ?_) rfl rfl (by rfl) ?_ ?_; rotate_left; (intro W hW; go_simp); (try with_reducible rfl); simp only [Act.put, List.setIfInBounds_toArray, List.set]))
  refine tree_loud rfl rfl (by rfl) (fun K hK => ?_)
  go_wp2_with fail
  have c1 := rnum_any w0.drew B a0 l0.length c0 l0 life o0 rfl hB0 (by omega)
  refine c1.mono ?_
  clear c1
  intro e1 w1 g1
  obtain ⟨l1, a1, c1, rfl, o1, r1, H1, z1⟩ := g1.get (be8_length _)
  have hB1 := Nat.le_trans hB0 r1.1.size
  go_wp2_with fail
  refine hK _ _ r1 ?_
  clear hK K
  replace r1 := Rx.undrew r1
  have R1 := Rx.trans _ _ _ R0 r1
  refine tree_loud rfl rfl (by rfl) (fun K hK => ?_)
  go_wp2_with fail
  have c2 := rnum_any w1 B a1 l1.length c1 l1 mana o1 rfl hB1 (by omega)
  refine c2.mono ?_
  clear c2
  intro e2 w2 g2
  obtain ⟨l2, a2, c2, rfl, o2, r2, H2, z2⟩ := g2.get (be8_length _)
  have hB2 := Nat.le_trans hB1 r2.1.size
  go_wp2_with fail
  refine hK _ _ r2 ?_
  clear hK K
  have R2 := Rx.trans _ _ _ R1 r2
  refine tree_loud rfl rfl (by rfl) (fun K hK => ?_)
  go_wp2_with fail
  have c3 := rnum_any w2 B a2 l2.length c2 l2 most o2 rfl hB2 (by omega)
  refine c3.mono ?_
  clear c3
  intro e3 w3 g3
  obtain ⟨l3, a3, c3, rfl, o3, r3, H3, z3⟩ := g3.get (be8_length _)
  have hB3 := Nat.le_trans hB2 r3.1.size
  go_wp2_with fail
  refine hK _ _ r3 ?_
  clear hK K
  have R3 := Rx.trans _ _ _ R2 r3
  clear x0 x1 x2
  repeat (first | (refine tree_skip rfl (by rfl) ?_; simp only [Act.put, List.setIfInBounds_toArray, List.set]) | (refine tree_quiet (v := ?_) rfl rfl (by rfl) ?_ ?_; rotate_left; (intro W hW; go_simp); (try with_reducible rfl); simp only [Act.put, List.setIfInBounds_toArray, List.set]))
  refine tree_done ?_
  have hx3 := (Rx.trans _ _ _ r1 (Rx.trans _ _ _ r2 r3)).blk hx0.drew (by decide)
  have ha3 := ha0.low (Rx.trans _ _ _ r1 (Rx.trans _ _ _ r2 r3)).1
  have E3 := Lib.hid (show l3 = l0 ++ (be8 life ++ be8 mana ++ be8 most) by rw [H3.out, H2.out, H1.out]; simp)
  clear H1 H2 H3 hx0 ha0
  have x3 : ∀ W, Rx B 5 w3.drew W → W.cell? ⟨X, 3, none⟩ = some (.slice h.deck.a h.deck.n h.deck.c) := fun W hW => (hW.blk hx3.drew (by decide)).rule 3
  have x4 : ∀ W, Rx B 5 w3.drew W → W.cell? ⟨X, 4, none⟩ = some (.slice h.hand.a h.hand.n h.hand.c) := fun W hW => (hW.blk hx3.drew (by decide)).rule 4
  have x5 : ∀ W, Rx B 5 w3.drew W → W.cell? ⟨X, 5, none⟩ = some (.slice h.grave.a h.grave.n h.grave.c) := fun W hW => (hW.blk hx3.drew (by decide)).rule 5
  go_wp2_with fail
  refine wp_region_treeX B 5 (.step 0 (.step 1 (.step 2 (.step 4 (.step 5 (.step 7 (.step 8 (.step 3 (.step 6 (.step 9 (.step 10 .done))))))))))) (by kernel_rfl) (by kernel_rfl) (fun c a d v w h => by cases d <;> exact h) ?_
  repeat (first | (refine tree_skip rfl (by rfl) ?_; simp only [Act.put, List.setIfInBounds_toArray, List.set]) | (refine tree_quiet (v := ?_) rfl rfl (by rfl) ?_ ?_; rotate_left; (intro W hW; go_simp); (try with_reducible rfl); simp only [Act.put, List.setIfInBounds_toArray, List.set]))
  refine tree_loud rfl rfl (by rfl) (fun K hK => ?_)
  go_wp2_with fail
  have c4 := rnums_any w3.drew B a3 l3.length c3 l3 h.deck deck o3 rfl hB3 ha3.at'.deck ha3.deck (by omega)
  refine c4.mono ?_
  clear c4
  intro e4 w4 g4
  obtain ⟨l4, a4, c4, rfl, o4, r4, H4, z4⟩ := g4.get (encL_len _)
  have hB4 := Nat.le_trans hB3 r4.1.size
  go_wp2_with fail
  refine hK _ _ r4 ?_
  clear hK K
  replace r4 := Rx.undrew r4
  have R4 := Rx.trans _ _ _ R3 r4
  rw [D1.out] at z4
  have ha4 := ha3.low r4.1
  refine tree_loud rfl rfl (by rfl) (fun K hK => ?_)
  go_wp2_with fail
  have c5 := rnums_any w4 B a4 l4.length c4 l4 h.hand hand o4 rfl hB4 ha4.at'.hand ha4.hand (by omega)
  refine c5.mono ?_
  clear c5
  intro e5 w5 g5
  obtain ⟨l5, a5, c5, rfl, o5, r5, H5, z5⟩ := g5.get (encL_len _)
  have hB5 := Nat.le_trans hB4 r5.1.size
  go_wp2_with fail
  refine hK _ _ r5 ?_
  clear hK K
  have R5 := Rx.trans _ _ _ R4 r5
  rw [D2.out] at z5
  have ha5 := ha4.low r5.1
  refine tree_loud rfl rfl (by rfl) (fun K hK => ?_)
  go_wp2_with fail
  have c6 := rnums_any w5 B a5 l5.length c5 l5 h.grave grave o5 rfl hB5 ha5.at'.grave ha5.grave (by omega)
  refine c6.mono ?_
  clear c6
  intro e6 w6 g6
  obtain ⟨l6, a6, c6, rfl, o6, r6, H6, z6⟩ := g6.get (encL_len _)
  have hB6 := Nat.le_trans hB5 r6.1.size
  go_wp2_with fail
  refine hK _ _ r6 ?_
  clear hK K
  have R6 := Rx.trans _ _ _ R5 r6
  rw [D3.out] at z6
  have ha6 := ha5.low r6.1
  clear x3 x4 x5
  repeat (first | (refine tree_skip rfl (by rfl) ?_; simp only [Act.put, List.setIfInBounds_toArray, List.set]) | (refine tree_quiet (v := ?_) rfl rfl (by rfl) ?_ ?_; rotate_left; (intro W hW; go_simp); (try with_reducible rfl); simp only [Act.put, List.setIfInBounds_toArray, List.set]))
  refine tree_done ?_
  have hx6 := (Rx.trans _ _ _ r4 (Rx.trans _ _ _ r5 r6)).blk hx3.drew (by decide)
  have E6 := Lib.hid (show l6 = l0 ++ (be8 life ++ be8 mana ++ be8 most ++ encL deck ++ encL hand ++ encL grave) by rw [H6.out, H5.out, H4.out, E3.out]; simp)
  clear H4 H5 H6 E3 hx3 ha3 ha4 ha5
  have x6 : w6.cell? ⟨X, 6, none⟩ = some (.slice h.units.a h.units.n h.units.c) := hx6.rule 6
  go_wp2_with fail
  have c7 := rnum_any w6 B a6 l6.length c6 l6 h.units.n o6 rfl hB6 (by omega)
  refine c7.mono ?_
  clear c7
  intro e7 w7 g7
  obtain ⟨l7, a7, c7, rfl, o7, r7, H7, z7⟩ := g7.get (be8_length _)
  have hB7 := Nat.le_trans hB6 r7.1.size
  have R7 := Rx.trans _ _ _ R6 r7
  have hx7 := r7.blk hx6 (by decide)
  have ha7 := ha6.low r7.1
  have E7 := Lib.hid (show l7 = l0 ++ (be8 life ++ be8 mana ++ be8 most ++ encL deck ++ encL hand ++ encL grave ++ be8 units.length) by rw [H7.out, E6.out, D4.out]; simp)
  clear H7 E6 x6 hx6 ha6
  have hst : UnitsB w7 B l7 units h.units.n (.slice a7 l7.length c7) (.int .i64 0) w7 := ⟨0, a7, c7, l7, by rw [D4.out]; omega, rfl, rfl, Lib.hid (by simp), o7, Rx.refl _⟩
  go_wp2_with fail
  go_loopg [0, 5] h.units.n (UnitsB w7 B l7 units)
  case atStart => exact hst
  case round =>
    clear hst o7
    obtain ⟨k, a8, c8, l8, hk, rfl, rfl, H8, o8, r8⟩ := hrel
    rw [D4.out] at hk
    have z8 : l8.length ≤ l7.length + 25 * k := by
      rw [H8.out, List.length_append, enc_len (n := 25) (fun x => by simp [thingB, be8_length, tr1]), List.length_take, D4.out]
      omega
    have hB8 := Nat.le_trans hB7 r8.1.size
    have hx8 := r8.blk hx7 (by decide)
    have cx6 : wr.cell? ⟨X, 6, none⟩ = some (.slice h.units.a h.units.n h.units.c) := hx8.rule 6
    by_cases hlt : k < h.units.n
    · have t0 : decide ((k : Int) < (h.units.n : Int)) = true := by simp; omega
      have hkl : k < units.length := by rw [D4.out]; exact hlt
      obtain ⟨b, o, hab, hbl, hc⟩ := ThingRow.elem (show ThingRow w7 h.units.a h.units.n h.units.c units from ha7.at'.units) k hkl
      have hbB : b < B := ha7.units (by omega) _ hab
      rw [hab] at cx6
      clear hab
      have HT := Lib.hid (List.take_succ_eq_append_getElem hkl)
      generalize units[k] = u at *
      have hcw : ∀ j (hj : j < u.cells.length), wr.cell? ⟨b, o + k * 4 + j, none⟩ = some u.cells[j] := fun j hj => r8.cell hbB (hc j hj)
      have HC := Lib.hid hcw
      clear hc hcw
      obtain ⟨id, card, harm, tired⟩ := u
      have hY : Blk (wr.alloc (.cells #[.int .i64 id, .int .i64 card, .int .i64 harm, .bool tired] 91)) wr.heap.size #[.int .i64 id, .int .i64 card, .int .i64 harm, .bool tired] 91 := Blk.new _ _ _
      have r9 : Rx B 5 wr (wr.alloc (.cells #[.int .i64 id, .int .i64 card, .int .i64 harm, .bool tired] 91)) := Rx.alloc wr hB8 _
      have o9 := o8.alloc (.cells #[.int .i64 id, .int .i64 card, .int .i64 harm, .bool tired] 91)
      go_wp2_with (refine wpList_load_as rfl 91 thingT (.tmp 42) rfl rfl (v := .agg #[.int .i64 id, .int .i64 card, .int .i64 harm, .bool tired]) rfl HC.out rfl ?_)
      obtain ⟨Y, hYe⟩ : ∃ Y, Y = wr.heap.size := ⟨_, rfl⟩
      obtain ⟨w9, hw9⟩ : ∃ W, W = wr.alloc (.cells #[.int .i64 id, .int .i64 card, .int .i64 harm, .bool tired] 91) := ⟨_, rfl⟩
      rw [← hw9, ← hYe] at hY
      rw [← hw9] at r9 o9
      rw [← hYe, ← hw9]
      clear hYe hw9
      have hB9 := Nat.le_trans hB8 r9.1.size
      obtain ⟨a9, ea⟩ : ∃ x, x = a8 := ⟨_, rfl⟩
      obtain ⟨c9, ec⟩ : ∃ x, x = c8 := ⟨_, rfl⟩
      obtain ⟨l9, el⟩ : ∃ x, x = l8 := ⟨_, rfl⟩
      rw [← ea, ← ec, ← el] at o9 ⊢
      rw [← el] at z8 H8
      clear ea ec el
      have y0 : ∀ W, Rx B 5 w9.drew W → W.cell? ⟨Y, 0, none⟩ = some (.int .i64 id) := fun W hW => (hW.blk hY.drew (by decide)).rule 0
      have y1 : ∀ W, Rx B 5 w9.drew W → W.cell? ⟨Y, 1, none⟩ = some (.int .i64 card) := fun W hW => (hW.blk hY.drew (by decide)).rule 1
      have y2 : ∀ W, Rx B 5 w9.drew W → W.cell? ⟨Y, 2, none⟩ = some (.int .i64 harm) := fun W hW => (hW.blk hY.drew (by decide)).rule 2
      have y3 : ∀ W, Rx B 5 w9.drew W → W.cell? ⟨Y, 3, none⟩ = some (.bool tired) := fun W hW => (hW.blk hY.drew (by decide)).rule 3
      refine wp_region_treeX B 5 (.step 0 (.step 1 (.step 2 (.step 4 (.step 5 (.step 7 (.step 8 (.step 10 (.step 11 (.step 3 (.step 6 (.step 9 (.step 12 (.step 13 .done)))))))))))))) (by kernel_rfl) (by kernel_rfl) (fun c a d v w h => by cases d <;> exact h) ?_
      repeat (first | (refine tree_skip rfl (by rfl) ?_; simp only [Act.put, List.setIfInBounds_toArray, List.set]) | (refine tree_quiet (v := ?_) rfl rfl (by rfl) ?_ ?_; rotate_left; (intro W hW; go_simp); (try with_reducible rfl); simp only [Act.put, List.setIfInBounds_toArray, List.set]))
      refine tree_loud rfl rfl (by rfl) (fun K hK => ?_)
      go_wp2_with fail
      have c10 := rnum_any w9.drew B a9 l9.length c9 l9 id o9 rfl hB9 (by omega)
      refine c10.mono ?_
      clear c10
      intro e10 w10 g10
      obtain ⟨l10, a10, c10, rfl, o10, r10, H10, z10⟩ := g10.get (be8_length _)
      have hB10 := Nat.le_trans hB9 r10.1.size
      go_wp2_with fail
      refine hK _ _ r10 ?_
      clear hK K
      replace r10 := Rx.undrew r10
      refine tree_loud rfl rfl (by rfl) (fun K hK => ?_)
      go_wp2_with fail
      have c11 := rnum_any w10 B a10 l10.length c10 l10 card o10 rfl hB10 (by omega)
      refine c11.mono ?_
      clear c11
      intro e11 w11 g11
      obtain ⟨l11, a11, c11, rfl, o11, r11, H11, z11⟩ := g11.get (be8_length _)
      have hB11 := Nat.le_trans hB10 r11.1.size
      go_wp2_with fail
      refine hK _ _ r11 ?_
      clear hK K
      refine tree_loud rfl rfl (by rfl) (fun K hK => ?_)
      go_wp2_with fail
      have c12 := rnum_any w11 B a11 l11.length c11 l11 harm o11 rfl hB11 (by omega)
      refine c12.mono ?_
      clear c12
      intro e12 w12 g12
      obtain ⟨l12, a12, c12, rfl, o12, r12, H12, z12⟩ := g12.get (be8_length _)
      have hB12 := Nat.le_trans hB11 r12.1.size
      go_wp2_with fail
      refine hK _ _ r12 ?_
      clear hK K
      refine tree_loud rfl rfl (by rfl) (fun K hK => ?_)
      go_wp2_with fail
      have c13 := rtruth_any w12 B a12 l12.length c12 l12 tired o12 rfl hB12 (by omega)
      refine c13.mono ?_
      clear c13
      intro e13 w13 g13
      obtain ⟨l13, a13, c13, rfl, o13, r13, H13, z13⟩ := g13.get (tr1_len _)
      have hB13 := Nat.le_trans hB12 r13.1.size
      go_wp2_with fail
      refine hK _ _ r13 ?_
      clear hK K
      clear y0 y1 y2 y3
      repeat (first | (refine tree_skip rfl (by rfl) ?_; simp only [Act.put, List.setIfInBounds_toArray, List.set]) | (refine tree_quiet (v := ?_) rfl rfl (by rfl) ?_ ?_; rotate_left; (intro W hW; go_simp); (try with_reducible rfl); simp only [Act.put, List.setIfInBounds_toArray, List.set]))
      refine tree_done ?_
      have r14 := Rx.trans _ _ _ r8 (Rx.trans _ _ _ r9 (Rx.trans _ _ _ r10 (Rx.trans _ _ _ r11 (Rx.trans _ _ _ r12 r13))))
      have H14 := Lib.hid (show l13 = l7 ++ (units.take (k + 1)).flatMap thingB by rw [H13.out, H12.out, H11.out, H10.out, H8.out, HT.out, List.flatMap_append]; simp [thingB])
      clear H8 H10 H11 H12 H13 r8 r9 r10 r11 r12 hY HC
      go_wp2_with fail
      go_roundg (gk - 1)
      case measure => omega
      case rel => exact ⟨k + 1, a13, c13, l13, by rw [D4.out]; omega, by go_num, rfl, H14, o13, r14⟩
    · have t0 : decide ((k : Int) < (h.units.n : Int)) = false := by simp; omega
      have HF := Lib.hid (show l8 = l0 ++ (be8 life ++ be8 mana ++ be8 most ++ encL deck ++ encL hand ++ encL grave ++ encU units) by rw [H8.out, List.take_of_length_le (by rw [D4.out]; omega), E7.out, encU]; simp)
      have ha8 := ha7.low r8.1
      have cx7 : wr.cell? ⟨X, 7, none⟩ = some (.slice h.told.a h.told.n h.told.c) := hx8.rule 7
      have R8 := Rx.trans _ _ _ R7 r8
      clear H8 E7 hx7
      go_wp2_with fail
      have c9 := rnums_any wr B a8 l8.length c8 l8 h.told told o8 rfl hB8 ha8.at'.told ha8.told (by omega)
      refine c9.mono ?_
      clear c9
      intro e9 w9 g9
      obtain ⟨l9, a9, c9, rfl, o9, r9, H9, z9⟩ := g9.get (encL_len _)
      have hB9 := Nat.le_trans hB8 r9.1.size
      have R9 := Rx.trans _ _ _ R8 r9
      have HG := Lib.hid (show l9 = l0 ++ sideI ⟨life, mana, most, deck, hand, grave, units, told⟩ by rw [H9.out, HF.out, sideI]; simp)
      go_wp2_with fail
      go_ret
      rw [← HG.out]
      exact ⟨a9, c9, rfl, o9, R9⟩
end Go.Proofs.Ytdokkhjgmhcpkaa

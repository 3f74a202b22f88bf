/- The law on what is hidden, walked. -/
import Derived.Test.YtiglljegpdlnmaaHid
import Derived.Deep.CutBlock
namespace Go.Proofs.Ytiglljegpdlnmaa
open Go.RowKit
set_option linter.unusedSimpArgs false
set_option linter.unusedVariables false

theorem rowsT : RowType Try.prog 56 24 1 24 := RowType.mk (z := .slice none 0 0) Try.underlying56 (by kernel_rfl) rfl (by omega)
theorem intsT' : RowType Try.prog 24 3 1 8 := RowType.mk (z := .int .i64 0) Try.underlying24 (by kernel_rfl) rfl (by omega)
def slV (s : Sl) : Value := .slice s.a s.n s.c
theorem Apart.symm {s t : Sl} (h : Apart s t) : Apart t s := fun a b ha hb e => h b a hb ha e.symm
/-- Which rows may be written. -/
theorem sep_ok {lo N : Nat} {h1 h2 : StateH} {who : Nat} (h : StateSep lo N h1) (e0 : who = 0 → h2.x.told = h1.x.told) (e1 : who = 1 → h2.y.told = h1.y.told) :
    WrOk h1 h2 who h1.x.deck ∧ WrOk h1 h2 who h1.y.deck ∧ (who ≠ 0 → WrOk h1 h2 who h1.x.hand) ∧ (who ≠ 1 → WrOk h1 h2 who h1.y.hand) := by
  obtain ⟨n1, n2, b1, b2, b3, ia, ⟨⟨x1, x2, x3, c1, c2, c3, c4, xd, xh, xg, xo⟩⟩, ⟨⟨y1, y2, y3, d1, d2, d3, d4, yd, yh, yg, yo⟩⟩⟩ := h
  refine ⟨⟨(ia.apart xd (Nat.le_refl _)).symm, xd.apart xg c2, xd.apart yg (by omega), fun hw => ⟨xd.apart xh (Nat.le_refl _), by rw [e0 hw]; exact xd.apart xo (by omega)⟩, fun hw => ⟨xd.apart yh (by omega), by rw [e1 hw]; exact xd.apart yo (by omega)⟩⟩,
    ⟨(ia.apart yd (by omega)).symm, (xg.apart yd (by omega)).symm, yd.apart yg d2, fun hw => ⟨(xh.apart yd (by omega)).symm, by rw [e0 hw]; exact (xo.apart yd (by omega)).symm⟩, fun hw => ⟨yd.apart yh (Nat.le_refl _), by rw [e1 hw]; exact yd.apart yo (by omega)⟩⟩,
    fun hw => ⟨(ia.apart xh (by omega)).symm, xh.apart xg (Nat.le_refl _), xh.apart yg (by omega), fun hw' => (hw hw').elim, fun hw => ⟨xh.apart yh (by omega), by rw [e1 hw]; exact xh.apart yo (by omega)⟩⟩,
    fun hw => ⟨(ia.apart yh (by omega)).symm, (xg.apart yh (by omega)).symm, yh.apart yg (Nat.le_refl _), fun hw => ⟨(xh.apart yh (by omega)).symm, by rw [e0 hw]; exact (xo.apart yh (by omega)).symm⟩, fun hw' => (hw hw').elim⟩⟩
/-- Between two turns of the outer loop. -/
structure OutRel (w : World) (p : StateP) (h h1 : StateH) (who : Nat) (g : Nat) (h2 : StateH) (wr : World) : Prop where
  hid : HidRel w.heap.size p h1 who h2 wr
  att : h2.attack = h1.attack
  ex : h2.x = { h1.x with told := h2.x.told }
  ey : h2.y = { h1.y with told := h2.y.told }
  x0 : who = 0 → h2.x.told = h1.x.told
  y1 : who = 1 → h2.y.told = h1.y.told
  t : Blk wr g (stateCells p h2).toArray 50
  s : Blk wr w.heap.size (stateCells p h).toArray 50
  below : Below w.heap.size w wr
/-- Within the inner loops. -/
structure RowsRel (w : World) (p : StateP) (h h1 : StateH) (who : Nat) (g : Nat) (h2 : StateH) (ra : Option Addr) (rn rc : Nat) (rs : List Sl) (wr : World) : Prop where
  out : OutRel w p h h1 who g h2 wr
  rows : Own wr w.heap.size 24 1 ra rn rc (rs.map slV)
  rn2 : rn ≤ 2
  ok : ∀ s ∈ rs, WrOk h1 h2 who s ∧ (∃ l, OwnInts wr w.heap.size s l)
section
variable {w wr w' : World} {p : StateP} {h h1 h2 : StateH} {who g : Nat} {ra : Option Addr} {rn rc : Nat} {rs : List Sl}
theorem OutRel.old (o : OutRel w p h h1 who g h2 wr) (hb : Below wr.heap.size wr w') : OutRel w p h h1 who g h2 w' :=
  ⟨o.hid.old hb, o.att, o.ex, o.ey, o.x0, o.y1, o.t.old hb, o.s.old hb, o.below.trans (hb.mono o.below.size)⟩
theorem RowsRel.write (o : RowsRel w p h h1 who g h2 ra rn rc rs wr) {s : Sl} (hs : s ∈ rs) {x : Addr} (hx : s.a = some x) (i : Nat) (v : Int) (hv : wf64 v) : RowsRel w p h h1 who g h2 ra rn rc rs (wr.setCell ⟨x.block, i, none⟩ (.int .i64 v)) := by
  obtain ⟨hok, l, hl⟩ := o.ok s hs
  obtain ⟨hB, hlt, cur, hcur⟩ := Own.block_lt hl.1 hx
  refine ⟨⟨o.out.hid.write hok hx hcur i v hv, o.out.att, o.out.ex, o.out.ey, o.out.x0, o.out.y1, o.out.t.other _ _ (Blk.ne o.out.t hcur (by decide)), o.out.s.other _ _ (Blk.ne o.out.s hcur (by decide)), o.out.below.setCell (p := ⟨x.block, i, none⟩) hB _⟩, o.rows.setCell_apart hcur (by decide) i _, o.rn2, fun t ht => ?_⟩
  obtain ⟨h3, l3, h4⟩ := o.ok t ht
  obtain ⟨l', hl'⟩ := h4.setAny x.block i v hv
  exact ⟨h3, l', hl'⟩
end
theorem HidRel.start {w : World} {B : Nat} {p : StateP} {h1 : StateH} (who : Nat) (o : StateOwn w B p h1) : HidRel B p h1 who h1 w :=
  ⟨o.attack, ⟨_, o.x.deck⟩, ⟨_, o.x.hand, fun _ => rfl⟩, o.x.grave, o.x.units, ⟨_, o.x.told, fun _ => rfl⟩, ⟨_, o.y.deck⟩, ⟨_, o.y.hand, fun _ => rfl⟩, o.y.grave, o.y.units, ⟨_, o.y.told, fun _ => rfl⟩⟩
set_option maxRecDepth 100000 in
set_option maxHeartbeats 8000000 in
theorem viewHidden_any (p : StateP) (h : StateH) (who : Int) (oa : Option Addr) (on oc : Nat) (other : List Int) (w : World) (ha : StateAt w p h) (ho : IntRow w oa on oc other) :
    Calls Try.prog 6 #[stateVal p h, .int .i64 who, .slice oa on oc] w fun e w' => e = .returned (.bool true) ∧ Below w.heap.size w w' := by
  have key1 := fun (w1 : World) (h1 : Below w.heap.size w w1) => great_any p h w1 (ha.old h1)
  have kp : decide (2000 < stateCount p) = true ∨ decide (2000 < stateCount p) = false ∧ stateCount p ≤ 2000 := by by_cases h : 2000 < stateCount p <;> simp [h]; omega
  generalize decide (2000 < stateCount p) = gp at key1 kp
  have hcp := fun (w1 : World) (h1 : Below w.heap.size w w1) => copyS_any p h w1 (ha.old h1)
  have HG1 := Lib.hid key1
  have HCP := Lib.hid hcp
  clear key1 hcp
  have wake : ∀ (W : World), Below w.heap.size w W → Calls Try.prog 8 #[] W fun e w' => e = .returned (.bool true) ∧ Below w.heap.size w w' := fun W hW => (viewWakes_any W).mono (by rintro e w' ⟨h1, h2⟩; exact ⟨h1, below_step hW h2⟩)
  unfold stateVal at HG1 HCP ⊢
  go_enter Try.func6, Try.ntmps6
  go_wp2_with (refine wpList_load_blkw (by rfl) 50 stateT (.tmp 3) rfl rfl (Blk.new _ _ _) rfl ?_)
  refine (HG1.out _ (by (try unfold Kept); repeat (first | assumption | exact Below.refl _ _ | exact below_undrew (Below.refl _ _) | exact Below.mono (by assumption) (by first | (simp; done) | (simp; omega) | omega) | refine below_setRow ?_ (by first | (simp; done) | (simp; omega) | omega) _ | refine Below.setCell ?_ (by first | (simp; done) | (simp; omega) | omega) _ | refine Below.alloc ?_ (by first | (simp; done) | (simp; omega) | omega) _ | refine below_drewN ?_ _ | refine Below.drew ?_ | refine below_undrew ?_ | refine below_step ?_ (by assumption)))).mono ?_
  rintro e w1 ⟨rfl, hb1⟩
  have hA := (Blk.new _ _ _).old hb1
  have hbw1 : Below w.heap.size w w1 := by (try unfold Kept); repeat (first | assumption | exact Below.refl _ _ | exact below_undrew (Below.refl _ _) | exact Below.mono (by assumption) (by first | (simp; done) | (simp; omega) | omega) | refine below_setRow ?_ (by first | (simp; done) | (simp; omega) | omega) _ | refine Below.setCell ?_ (by first | (simp; done) | (simp; omega) | omega) _ | refine Below.alloc ?_ (by first | (simp; done) | (simp; omega) | omega) _ | refine below_drewN ?_ _ | refine Below.drew ?_ | refine below_undrew ?_ | refine below_step ?_ (by assumption))
  clear hb1
  by_cases hgw : gp = true ∨ who < 0 ∨ 2 < who
  · rcases kp with rfl | ⟨rfl, kp⟩
    · go_wp2_with fail
      refine (wake _ hbw1).mono ?_
      rintro e w2 ⟨rfl, hb2⟩
      go_wp2_with fail
      go_ret
      exact ⟨rfl, hb2⟩
    · by_cases h0 : who < 0
      · have t0 : decide (who < 0) = true := by simp; omega
        go_wp2_with fail
        refine (wake _ hbw1).mono ?_
        rintro e w2 ⟨rfl, hb2⟩
        go_wp2_with fail
        go_ret
        exact ⟨rfl, hb2⟩
      · have t0 : decide (who < 0) = false := by simp; omega
        have t1 : decide (2 < who) = true := by
          rcases hgw with q | q | q
          · cases q
          · omega
          · simp; omega
        go_wp2_with fail
        refine (wake _ hbw1).mono ?_
        rintro e w2 ⟨rfl, hb2⟩
        go_wp2_with fail
        go_ret
        exact ⟨rfl, hb2⟩
  have kp2 : stateCount p ≤ 2000 := by
    rcases kp with rfl | ⟨_, kp⟩
    · exact (hgw (.inl rfl)).elim
    · exact kp
  have hgf : gp = false := by cases gp with
    | false => rfl
    | true => exact (hgw (.inl rfl)).elim
  subst hgf
  obtain ⟨n, rfl⟩ := Int.eq_ofNat_of_zero_le (show 0 ≤ who by omega)
  have hn : n ≤ 2 := by omega
  have t0 : decide ((n : Int) < 0) = false := by simp
  have t1 : decide (2 < (n : Int)) = false := by simp; omega
  clear hgw kp
  go_wp2_with (refine wpList_load_blkw (by rfl) 50 stateT (.tmp 3) rfl rfl hA rfl ?_)
  refine (HCP.out _ hbw1).mono ?_
  rintro e w2 ⟨h1, rfl, hown, hsep, hb2⟩
  have hA := hA.old hb2
  have hbw2 : Below w.heap.size w w2 := below_step hbw1 hb2
  have hz2 := hbw2.size
  go_upto_region 4 with (refine wpList_store_blk rfl 50 stateT (.tmp 7) _ rfl rfl rfl (Blk.new _ _ _) rfl rfl rfl ?_)
  (try simp only [Act.put])
  have HN1 := Lib.hid (show h1.x.deck.n = p.x.deck.length ∧ h1.x.hand.n = p.x.hand.length ∧ h1.y.deck.n = p.y.deck.length ∧ h1.y.hand.n = p.y.hand.length from ⟨hown.x.deck.at.2.1.symm, hown.x.hand.at.2.1.symm, hown.y.deck.at.2.1.symm, hown.y.hand.at.2.1.symm⟩)
  have HSEP := Lib.hid hsep
  have hbW : ∀ W, Below w2.heap.size w2 W → Below w.heap.size w W := fun W hW => below_step hbw2 hW
  refine wp_forget (fun W0 => OutRel w p h h1 n w2.heap.size h1 W0) ⟨(HidRel.start n (hown.lower hbw1.size)).old (by (try unfold Kept); repeat (first | assumption | exact Below.refl _ _ | exact below_undrew (Below.refl _ _) | exact Below.mono (by assumption) (by first | (simp; done) | (simp; omega) | omega) | refine below_setRow ?_ (by first | (simp; done) | (simp; omega) | omega) _ | refine Below.setCell ?_ (by first | (simp; done) | (simp; omega) | omega) _ | refine Below.alloc ?_ (by first | (simp; done) | (simp; omega) | omega) _ | refine below_drewN ?_ _ | refine Below.drew ?_ | refine below_undrew ?_ | refine below_step ?_ (by assumption))), rfl, rfl, rfl, fun _ => rfl, fun _ => rfl, (Blk.new _ _ _).setRow _, hA.old (by (try unfold Kept); repeat (first | assumption | exact Below.refl _ _ | exact below_undrew (Below.refl _ _) | exact Below.mono (by assumption) (by first | (simp; done) | (simp; omega) | omega) | refine below_setRow ?_ (by first | (simp; done) | (simp; omega) | omega) _ | refine Below.setCell ?_ (by first | (simp; done) | (simp; omega) | omega) _ | refine Below.alloc ?_ (by first | (simp; done) | (simp; omega) | omega) _ | refine below_drewN ?_ _ | refine Below.drew ?_ | refine below_undrew ?_ | refine below_step ?_ (by assumption))), hbW _ (by (try unfold Kept); repeat (first | assumption | exact Below.refl _ _ | exact below_undrew (Below.refl _ _) | exact Below.mono (by assumption) (by first | (simp; done) | (simp; omega) | omega) | refine below_setRow ?_ (by first | (simp; done) | (simp; omega) | omega) _ | refine Below.setCell ?_ (by first | (simp; done) | (simp; omega) | omega) _ | refine Below.alloc ?_ (by first | (simp; done) | (simp; omega) | omega) _ | refine below_drewN ?_ _ | refine Below.drew ?_ | refine below_undrew ?_ | refine below_step ?_ (by assumption)))⟩ ?_
  rintro W0 hst
  have hlt0 : w.heap.size < w2.heap.size := hA.lt
  clear hA hbw2 hb2 hown hsep hbW
  have hog : ∀ x ∈ other, wf64 x := ho.2.2.2.2.2
  have hon : other.length = on := ho.2.1
  have hon2 : on ≤ 17592186044000 := ho.2.2.2.2.1
  have HON := Lib.hid hon
  clear hon
  go_wp2_with fail
  go_loopg [8, 31] 2 (fun f v8 v31 wr => ∃ (k kk : Nat) (h2 : StateH), k + f = 2 ∧ v31 = idx k ∧ v8 = .int .i64 (kk : Int) ∧ kk ≤ on ∧ OutRel w p h h1 n w2.heap.size h2 wr)
  case atStart => exact ⟨0, 0, h1, rfl, rfl, rfl, Nat.zero_le _, hst⟩
  case round =>
    clear hst
    obtain ⟨k, kk, h2, hk, rfl, rfl, hkk, hR⟩ := hrel
    rcases (show k = 0 ∨ k = 1 ∨ k = 2 by omega) with rfl | rfl | rfl
    · simp only [idx]
      have rD : wr.cell? ⟨w2.heap.size, 10, none⟩ = some (.slice h1.x.deck.a h1.x.deck.n h1.x.deck.c) := (hR.t.rule 10).trans (show some (Value.slice h2.x.deck.a h2.x.deck.n h2.x.deck.c) = _ by have e := congrArg SideH.deck hR.ex; rw [show h2.x.deck = h1.x.deck from e])
      have HOK := Lib.hid (sep_ok (who := n) (h2 := h2) HSEP.out hR.x0 hR.y1)
      have hrz := hR.below.size
      have hgl := hR.t.lt
      go_upto_if 42 with (fail)
      go_cut [10, 42] (fun v10 v42 wx => ∃ (h3 : StateH) (ra : Option Addr) (rn rc : Nat) (rs : List Sl), v10 = .slice ra rn rc ∧ RowsRel w p h h1 n w2.heap.size h3 ra rn rc rs wx)
      case first =>
        have hbD : Below wr.heap.size wr (wr.alloc (.cells #[.slice h1.x.deck.a h1.x.deck.n h1.x.deck.c] 24)) := (Below.refl _ _).alloc (Nat.le_refl _) _
        have oD : Own (wr.alloc (.cells #[.slice h1.x.deck.a h1.x.deck.n h1.x.deck.c] 24)) wr.heap.size 24 1 (some ⟨wr.heap.size, 0, none⟩) 1 1 ([h1.x.deck].map slV) := Own.lit _ _ _ rfl rfl (Nat.le_refl _) (by unfold maxLen; omega)
        have hRD := hR.old hbD
        by_cases hown : n = 0
        · have u0 : ((0 : Int) != (n : Int)) = false := by rw [hown]; rfl
          have u1 : (true : Bool) = true := rfl
          have HOWN := Lib.hid hown
          clear hown
          go_wp2_with fail
          go_meet
          case rel =>
            refine ⟨h2, _, _, _, [h1.x.deck], rfl, hRD, oD.lower hrz, by omega, fun s hs => ?_⟩
            rw [List.mem_singleton.1 hs]
            exact ⟨HOK.out.1, hRD.hid.xd⟩
        · have u0 : ((0 : Int) != (n : Int)) = true := by simp; omega
          have HOWN := Lib.hid hown
          clear hown
          have hRO := hRD.t
          have rH : (wr.alloc (.cells #[.slice h1.x.deck.a h1.x.deck.n h1.x.deck.c] 24)).cell? ⟨w2.heap.size, 11, none⟩ = some (.slice h1.x.hand.a h1.x.hand.n h1.x.hand.c) := (hRO.rule 11).trans (show some (Value.slice h2.x.hand.a h2.x.hand.n h2.x.hand.c) = _ by have e := congrArg SideH.hand hR.ex; rw [show h2.x.hand = h1.x.hand from e])
          go_wp2_with (at_builtin; refine wpList_append_row rfl (.tmp 43) (.tmp 49) 56 rfl rowsT rfl (oD.alloc (.cells #[.slice h1.x.hand.a h1.x.hand.n h1.x.hand.c] 24)) rfl (RowAt.new' (wr.alloc (.cells #[.slice h1.x.deck.a h1.x.deck.n h1.x.deck.c] 24)) #[.slice h1.x.hand.a h1.x.hand.n h1.x.hand.c] 24 _ (by simp)) (by rfl) (by exact all_one _ rfl) (by unfold maxLen; omega) (by omega) (by simp; omega) ?_)
          intro a4 c4 w4 ho4 hg4
          have hb4 : Below wr.heap.size wr w4 := (oD.alloc _).grown (by (try unfold Kept); repeat (first | assumption | exact Below.refl _ _ | exact below_undrew (Below.refl _ _) | exact Below.mono (by assumption) (by first | (simp; done) | (simp; omega) | omega) | refine below_setRow ?_ (by first | (simp; done) | (simp; omega) | omega) _ | refine Below.setCell ?_ (by first | (simp; done) | (simp; omega) | omega) _ | refine Below.alloc ?_ (by first | (simp; done) | (simp; omega) | omega) _ | refine below_drewN ?_ _ | refine Below.drew ?_ | refine below_undrew ?_ | refine below_step ?_ (by assumption))) (Nat.le_refl _) hg4 (by simp; omega)
          have hz4 := hb4.size
          have hR4 := hR.old hb4
          clear rH rD hRO
          have hoW : IntRow w4 oa on oc other := ho.below (hR.below.trans (hb4.mono hrz))
          have lc0 : ∀ (ad : Addr) (W : World), (loadCellsFrom ad 0 0 #[]).run Try.prog W = .ok #[] W := fun _ _ => rfl
          have sc0 : ∀ (ad : Addr) (W : World), (storeCells ad []).run Try.prog W = .ok () W := fun _ _ => rfl
          have hE : Own (w4.alloc (.cells #[] 3)) w4.heap.size 3 1 (some ⟨w4.heap.size, 0, none⟩) 0 0 [] := Own.lit _ _ _ rfl rfl (Nat.le_refl _) (by unfold maxLen; omega)
          go_wp2_with (at_builtin; refine wpList_append_row rfl (.tmp 52) (.tmp 53) 24 rfl intsT' rfl hE rfl (hoW.1.alloc _) (by rw [List.length_map, HON.out, Nat.mul_one]) (by intro u hu; obtain ⟨y, _, rfl⟩ := List.mem_map.1 hu; rfl) (by unfold maxLen; omega) (by omega) (by simp) ?_)
          intro a5 c5 w5 ho5 hg5
          have hb5 : Below w4.heap.size w4 w5 := hE.grown (by (try unfold Kept); repeat (first | assumption | exact Below.refl _ _ | exact below_undrew (Below.refl _ _) | exact Below.mono (by assumption) (by first | (simp; done) | (simp; omega) | omega) | refine below_setRow ?_ (by first | (simp; done) | (simp; omega) | omega) _ | refine Below.setCell ?_ (by first | (simp; done) | (simp; omega) | omega) _ | refine Below.alloc ?_ (by first | (simp; done) | (simp; omega) | omega) _ | refine below_drewN ?_ _ | refine Below.drew ?_ | refine below_undrew ?_ | refine below_step ?_ (by assumption))) (Nat.le_refl _) hg5 (by simp)
          have hR5 := hR4.old hb5
          have hto := OwnInts.mk' (s := ⟨a5, 0 + on, c5⟩) (s0 := ⟨oa, on, oc⟩) (l := other) (by simpa using ho5) ho (by simp)
          have rT := hR5.t.rule
          have fT := hR5.t.free
          have hz5 := hb5.size
          have hl5 := hR5.t.lt
          go_wp2_with fail
          go_meet
          case rel =>
            have eset : w5.setCell ⟨w2.heap.size, 14, none⟩ (.slice a5 on c5) = w5.setRow w2.heap.size (stateCells p { h2 with x := { h2.x with told := ⟨a5, on, c5⟩ } }).toArray := setCell_eq_setRow _ _ _ _ _ (0, 0) _ hR5.t
            rw [eset]
            have hto' : OwnInts w5 w.heap.size ⟨a5, on, c5⟩ other := by have := hto.lower (show w.heap.size ≤ w4.heap.size by omega); simpa using this
            have ho4' : Own w5 w.heap.size 24 1 a4 2 c4 ([h1.x.deck, h1.x.hand].map slV) := (ho4.old hb5).lower hrz
            have HP := hR5.hid.put hR5.t (by decide) (by decide) (stateCells p { h2 with x := { h2.x with told := ⟨a5, on, c5⟩ } }).toArray
            have hok := sep_ok (h2 := { h2 with x := { h2.x with told := ⟨a5, on, c5⟩ } }) (who := n) HSEP.out (fun e => absurd e HOWN.out) hR.y1
            refine ⟨{ h2 with x := { h2.x with told := ⟨a5, on, c5⟩ } }, a4, 2, c4, [h1.x.deck, h1.x.hand], rfl, ⟨⟨{ HP with xo := ⟨other, hto'.put hR5.t (by decide) (by decide) _, fun e => absurd e HOWN.out⟩ }, hR.att, ?_, ?_, (fun e => absurd e HOWN.out), hR.y1, hR5.t.setRow _, hR5.s.setRow_other _ _ (by omega), below_setRow (hR5.below) (by omega) _⟩, ho4'.setRow_apart hR5.t (by decide) _, by omega, fun s hs => ?_⟩⟩
            · have e := hR.ex
              show ({ h2.x with told := _ } : SideH) = _
              rw [e]
            · exact hR.ey
            · rcases List.mem_cons.1 hs with rfl | hs
              · exact ⟨hok.1, HP.xd⟩
              · rw [List.mem_singleton.1 hs]
                obtain ⟨l, q1, _⟩ := HP.xh
                exact ⟨hok.2.2.1 HOWN.out, l, q1⟩
      case rest =>
        obtain ⟨h3, ra, rn, rc, rs, rfl, hRR⟩ := hcut
        clear hR rD hrz hgl HOK
        obtain ⟨wd, rfl⟩ : ∃ wd : World, wd = wc := ⟨_, rfl⟩
        have hrl : rs.length = rn := by have := hRR.rows.length; simpa using this
        have hrn2 := hRR.rn2
        go_wp2_with fail
        go_loopg [8, 60] rn (fun f v8 v60 wr => ∃ (m kk : Nat), m + f = rn ∧ v60 = .int .i64 (m : Int) ∧ v8 = .int .i64 (kk : Int) ∧ kk ≤ on ∧ RowsRel w p h h1 n w2.heap.size h3 ra rn rc rs wr)
        case atStart => exact ⟨0, kk, by omega, rfl, rfl, hkk, hRR⟩
        case round =>
          clear hRR
          obtain ⟨m, kk, hm, rfl, rfl, hkk, hRR⟩ := hrel
          by_cases hml : m < rn
          · have hmr : m < rs.length := by omega
            obtain ⟨rb, ro, e1, hcell⟩ := hRR.rows.row m (by simpa using hmr)
            subst e1
            have hcell' : wr.cell? ⟨rb, ro + m, none⟩ = some (.slice rs[m].a rs[m].n rs[m].c) := by rw [hcell]; simp [slV]
            have hmem := List.getElem_mem hmr
            have HMEM := Lib.hid hmem
            clear hcell hmem
            generalize rs[m] = s at *
            obtain ⟨hok, l0, hl0⟩ := hRR.ok s HMEM.out
            have hsn : s.n ≤ 17592186044000 := hl0.2.2.2.2.2.1
            have HOKS := Lib.hid hok
            clear hok hl0
            go_wp2_with fail
            obtain ⟨we, rfl⟩ : ∃ we : World, we = wr := ⟨_, rfl⟩
            obtain ⟨gm, rfl⟩ : ∃ x, x = gk := ⟨_, rfl⟩
            go_loopg [8, 66] s.n (fun f v8 v66 wr => ∃ (j kk : Nat), j + f = s.n ∧ v66 = .int .i64 (j : Int) ∧ v8 = .int .i64 (kk : Int) ∧ kk ≤ on ∧ RowsRel w p h h1 n w2.heap.size h3 (some ⟨rb, ro, none⟩) rn rc rs wr)
            case atStart => exact ⟨0, kk, by omega, rfl, rfl, hkk, hRR⟩
            case round =>
              clear hRR hcell'
              obtain ⟨j, kk, hj, rfl, rfl, hkk, hRR⟩ := hrel
              by_cases hjs : j < s.n
              · obtain ⟨hok, l1, hl1⟩ := hRR.ok s HMEM.out
                have hlen1 : l1.length = s.n := hl1.2.2.1
                obtain ⟨sa, hsa⟩ : ∃ x, s.a = some x := by
                  obtain ⟨b1, o1, e1, _⟩ := hl1.2.1 j (by simp; omega)
                  exact ⟨_, e1⟩
                obtain ⟨sb, rfl⟩ : ∃ sb, sa = ⟨sb, 0, none⟩ := by
                  rcases hl1.1.2 with ⟨q, _⟩ | ⟨g', c', cur', q, _⟩
                  · rw [hsa] at q; simp at q
                  · rw [hsa] at q; simp only [Value.slice.injEq, Option.some.injEq] at q; exact ⟨g', q.1⟩
                obtain ⟨hsB, hslt, cur, hcur⟩ := Own.block_lt hl1.1 hsa
                have hcj : wr.cell? ⟨sb, j, none⟩ = some (.int .i64 (l1[j]'(by omega))) := by
                  obtain ⟨b1, o1, e1, e2⟩ := hl1.2.1 j (by simp; omega)
                  rw [hsa] at e1
                  cases e1
                  simpa using e2
                have hfr : wr.frozen? ⟨sb, j, none⟩ = false := hcur.free j
                by_cases hko : kk < on
                · have hkl : kk < other.length := by rw [HON.out]; exact hko
                  obtain ⟨ob, oo, e3, e4⟩ := ho.1 kk (by simpa using hkl)
                  have hco : wr.cell? ⟨ob, oo + kk, none⟩ = some (.int .i64 other[kk]) := by
                    rw [hRR.out.below.cell (p := ⟨ob, oo + kk, none⟩) (World.block_lt_of_cell? w _ e4), e4]
                    simp
                  have hv := hog _ (List.getElem_mem hkl)
                  have HW := Lib.hid (hRR.write HMEM.out hsa j _ hv)
                  have HE3 := Lib.hid e3
                  have HSA := Lib.hid hsa
                  rw [hsa]
                  generalize l1[j] = y1 at *
                  generalize other[kk] = y2 at *
                  clear hv e4 hl1 hok hlen1 hcur hRR
                  rw [e3]
                  clear e3 hsa
                  go_wp2_with fail
                  rw [← HE3.out, ← HSA.out]
                  go_roundg (gk - 1)
                  case measure => omega
                  case rel => exact ⟨j + 1, kk + 1, by omega, by go_num, by go_num, by omega, HW.out⟩
                · have hkn : ¬ kk < on := hko
                  clear hl1 hok hlen1 hcur hcj hfr hsa
                  go_wp2_with fail
                  go_roundg (gk - 1)
                  case measure => omega
                  case rel => exact ⟨j + 1, kk, by omega, by go_num, rfl, hkk, hRR⟩
              · go_wp2_with fail
                go_roundg (gm - 1)
                case measure => omega
                case rel => exact ⟨m + 1, kk, by omega, by go_num, rfl, hkk, hRR⟩
          · have hmn : m = rn := by omega
            go_wp2_with fail
            go_roundg 1
            case measure => omega
            case rel => exact ⟨1, kk, h3, rfl, rfl, rfl, hkk, hRR.out⟩
    · simp only [idx]
      have rD : wr.cell? ⟨w2.heap.size, 18, none⟩ = some (.slice h1.y.deck.a h1.y.deck.n h1.y.deck.c) := (hR.t.rule 18).trans (show some (Value.slice h2.y.deck.a h2.y.deck.n h2.y.deck.c) = _ by have e := congrArg SideH.deck hR.ey; rw [show h2.y.deck = h1.y.deck from e])
      have HOK := Lib.hid (sep_ok (who := n) (h2 := h2) HSEP.out hR.x0 hR.y1)
      have hrz := hR.below.size
      have hgl := hR.t.lt
      go_upto_if 42 with (fail)
      go_cut [10, 42] (fun v10 v42 wx => ∃ (h3 : StateH) (ra : Option Addr) (rn rc : Nat) (rs : List Sl), v10 = .slice ra rn rc ∧ RowsRel w p h h1 n w2.heap.size h3 ra rn rc rs wx)
      case first =>
        have hbD : Below wr.heap.size wr (wr.alloc (.cells #[.slice h1.y.deck.a h1.y.deck.n h1.y.deck.c] 24)) := (Below.refl _ _).alloc (Nat.le_refl _) _
        have oD : Own (wr.alloc (.cells #[.slice h1.y.deck.a h1.y.deck.n h1.y.deck.c] 24)) wr.heap.size 24 1 (some ⟨wr.heap.size, 0, none⟩) 1 1 ([h1.y.deck].map slV) := Own.lit _ _ _ rfl rfl (Nat.le_refl _) (by unfold maxLen; omega)
        have hRD := hR.old hbD
        by_cases hown : n = 1
        · have u0 : ((1 : Int) != (n : Int)) = false := by rw [hown]; rfl
          have u1 : (true : Bool) = true := rfl
          have HOWN := Lib.hid hown
          clear hown
          go_wp2_with fail
          go_meet
          case rel =>
            refine ⟨h2, _, _, _, [h1.y.deck], rfl, hRD, oD.lower hrz, by omega, fun s hs => ?_⟩
            rw [List.mem_singleton.1 hs]
            exact ⟨HOK.out.2.1, hRD.hid.yd⟩
        · have u0 : ((1 : Int) != (n : Int)) = true := by simp; omega
          have HOWN := Lib.hid hown
          clear hown
          have hRO := hRD.t
          have rH : (wr.alloc (.cells #[.slice h1.y.deck.a h1.y.deck.n h1.y.deck.c] 24)).cell? ⟨w2.heap.size, 19, none⟩ = some (.slice h1.y.hand.a h1.y.hand.n h1.y.hand.c) := (hRO.rule 19).trans (show some (Value.slice h2.y.hand.a h2.y.hand.n h2.y.hand.c) = _ by have e := congrArg SideH.hand hR.ey; rw [show h2.y.hand = h1.y.hand from e])
          go_wp2_with (at_builtin; refine wpList_append_row rfl (.tmp 43) (.tmp 49) 56 rfl rowsT rfl (oD.alloc (.cells #[.slice h1.y.hand.a h1.y.hand.n h1.y.hand.c] 24)) rfl (RowAt.new' (wr.alloc (.cells #[.slice h1.y.deck.a h1.y.deck.n h1.y.deck.c] 24)) #[.slice h1.y.hand.a h1.y.hand.n h1.y.hand.c] 24 _ (by simp)) (by rfl) (by exact all_one _ rfl) (by unfold maxLen; omega) (by omega) (by simp; omega) ?_)
          intro a4 c4 w4 ho4 hg4
          have hb4 : Below wr.heap.size wr w4 := (oD.alloc _).grown (by (try unfold Kept); repeat (first | assumption | exact Below.refl _ _ | exact below_undrew (Below.refl _ _) | exact Below.mono (by assumption) (by first | (simp; done) | (simp; omega) | omega) | refine below_setRow ?_ (by first | (simp; done) | (simp; omega) | omega) _ | refine Below.setCell ?_ (by first | (simp; done) | (simp; omega) | omega) _ | refine Below.alloc ?_ (by first | (simp; done) | (simp; omega) | omega) _ | refine below_drewN ?_ _ | refine Below.drew ?_ | refine below_undrew ?_ | refine below_step ?_ (by assumption))) (Nat.le_refl _) hg4 (by simp; omega)
          have hz4 := hb4.size
          have hR4 := hR.old hb4
          clear rH rD hRO
          have hoW : IntRow w4 oa on oc other := ho.below (hR.below.trans (hb4.mono hrz))
          have lc0 : ∀ (ad : Addr) (W : World), (loadCellsFrom ad 0 0 #[]).run Try.prog W = .ok #[] W := fun _ _ => rfl
          have sc0 : ∀ (ad : Addr) (W : World), (storeCells ad []).run Try.prog W = .ok () W := fun _ _ => rfl
          have hE : Own (w4.alloc (.cells #[] 3)) w4.heap.size 3 1 (some ⟨w4.heap.size, 0, none⟩) 0 0 [] := Own.lit _ _ _ rfl rfl (Nat.le_refl _) (by unfold maxLen; omega)
          go_wp2_with (at_builtin; refine wpList_append_row rfl (.tmp 52) (.tmp 53) 24 rfl intsT' rfl hE rfl (hoW.1.alloc _) (by rw [List.length_map, HON.out, Nat.mul_one]) (by intro u hu; obtain ⟨y, _, rfl⟩ := List.mem_map.1 hu; rfl) (by unfold maxLen; omega) (by omega) (by simp) ?_)
          intro a5 c5 w5 ho5 hg5
          have hb5 : Below w4.heap.size w4 w5 := hE.grown (by (try unfold Kept); repeat (first | assumption | exact Below.refl _ _ | exact below_undrew (Below.refl _ _) | exact Below.mono (by assumption) (by first | (simp; done) | (simp; omega) | omega) | refine below_setRow ?_ (by first | (simp; done) | (simp; omega) | omega) _ | refine Below.setCell ?_ (by first | (simp; done) | (simp; omega) | omega) _ | refine Below.alloc ?_ (by first | (simp; done) | (simp; omega) | omega) _ | refine below_drewN ?_ _ | refine Below.drew ?_ | refine below_undrew ?_ | refine below_step ?_ (by assumption))) (Nat.le_refl _) hg5 (by simp)
          have hR5 := hR4.old hb5
          have hto := OwnInts.mk' (s := ⟨a5, 0 + on, c5⟩) (s0 := ⟨oa, on, oc⟩) (l := other) (by simpa using ho5) ho (by simp)
          have rT := hR5.t.rule
          have fT := hR5.t.free
          have hz5 := hb5.size
          have hl5 := hR5.t.lt
          go_wp2_with fail
          go_meet
          case rel =>
            have eset : w5.setCell ⟨w2.heap.size, 22, none⟩ (.slice a5 on c5) = w5.setRow w2.heap.size (stateCells p { h2 with y := { h2.y with told := ⟨a5, on, c5⟩ } }).toArray := setCell_eq_setRow _ _ _ _ _ (0, 0) _ hR5.t
            rw [eset]
            have hto' : OwnInts w5 w.heap.size ⟨a5, on, c5⟩ other := by have := hto.lower (show w.heap.size ≤ w4.heap.size by omega); simpa using this
            have ho4' : Own w5 w.heap.size 24 1 a4 2 c4 ([h1.y.deck, h1.y.hand].map slV) := (ho4.old hb5).lower hrz
            have HP := hR5.hid.put hR5.t (by decide) (by decide) (stateCells p { h2 with y := { h2.y with told := ⟨a5, on, c5⟩ } }).toArray
            have hok := sep_ok (h2 := { h2 with y := { h2.y with told := ⟨a5, on, c5⟩ } }) (who := n) HSEP.out hR.x0 (fun e => absurd e HOWN.out)
            refine ⟨{ h2 with y := { h2.y with told := ⟨a5, on, c5⟩ } }, a4, 2, c4, [h1.y.deck, h1.y.hand], rfl, ⟨⟨{ HP with yo := ⟨other, hto'.put hR5.t (by decide) (by decide) _, fun e => absurd e HOWN.out⟩ }, hR.att, ?_, ?_, hR.x0, (fun e => absurd e HOWN.out), hR5.t.setRow _, hR5.s.setRow_other _ _ (by omega), below_setRow (hR5.below) (by omega) _⟩, ho4'.setRow_apart hR5.t (by decide) _, by omega, fun s hs => ?_⟩⟩
            · exact hR.ex
            · have e := hR.ey
              show ({ h2.y with told := _ } : SideH) = _
              rw [e]
            · rcases List.mem_cons.1 hs with rfl | hs
              · exact ⟨hok.2.1, HP.yd⟩
              · rw [List.mem_singleton.1 hs]
                obtain ⟨l, q1, _⟩ := HP.yh
                exact ⟨hok.2.2.2 HOWN.out, l, q1⟩
      case rest =>
        obtain ⟨h3, ra, rn, rc, rs, rfl, hRR⟩ := hcut
        clear hR rD hrz hgl HOK
        obtain ⟨wd, rfl⟩ : ∃ wd : World, wd = wc := ⟨_, rfl⟩
        have hrl : rs.length = rn := by have := hRR.rows.length; simpa using this
        have hrn2 := hRR.rn2
        go_wp2_with fail
        go_loopg [8, 60] rn (fun f v8 v60 wr => ∃ (m kk : Nat), m + f = rn ∧ v60 = .int .i64 (m : Int) ∧ v8 = .int .i64 (kk : Int) ∧ kk ≤ on ∧ RowsRel w p h h1 n w2.heap.size h3 ra rn rc rs wr)
        case atStart => exact ⟨0, kk, by omega, rfl, rfl, hkk, hRR⟩
        case round =>
          clear hRR
          obtain ⟨m, kk, hm, rfl, rfl, hkk, hRR⟩ := hrel
          by_cases hml : m < rn
          · have hmr : m < rs.length := by omega
            obtain ⟨rb, ro, e1, hcell⟩ := hRR.rows.row m (by simpa using hmr)
            subst e1
            have hcell' : wr.cell? ⟨rb, ro + m, none⟩ = some (.slice rs[m].a rs[m].n rs[m].c) := by rw [hcell]; simp [slV]
            have hmem := List.getElem_mem hmr
            have HMEM := Lib.hid hmem
            clear hcell hmem
            generalize rs[m] = s at *
            obtain ⟨hok, l0, hl0⟩ := hRR.ok s HMEM.out
            have hsn : s.n ≤ 17592186044000 := hl0.2.2.2.2.2.1
            have HOKS := Lib.hid hok
            clear hok hl0
            go_wp2_with fail
            obtain ⟨we, rfl⟩ : ∃ we : World, we = wr := ⟨_, rfl⟩
            obtain ⟨gm, rfl⟩ : ∃ x, x = gk := ⟨_, rfl⟩
            go_loopg [8, 66] s.n (fun f v8 v66 wr => ∃ (j kk : Nat), j + f = s.n ∧ v66 = .int .i64 (j : Int) ∧ v8 = .int .i64 (kk : Int) ∧ kk ≤ on ∧ RowsRel w p h h1 n w2.heap.size h3 (some ⟨rb, ro, none⟩) rn rc rs wr)
            case atStart => exact ⟨0, kk, by omega, rfl, rfl, hkk, hRR⟩
            case round =>
              clear hRR hcell'
              obtain ⟨j, kk, hj, rfl, rfl, hkk, hRR⟩ := hrel
              by_cases hjs : j < s.n
              · obtain ⟨hok, l1, hl1⟩ := hRR.ok s HMEM.out
                have hlen1 : l1.length = s.n := hl1.2.2.1
                obtain ⟨sa, hsa⟩ : ∃ x, s.a = some x := by
                  obtain ⟨b1, o1, e1, _⟩ := hl1.2.1 j (by simp; omega)
                  exact ⟨_, e1⟩
                obtain ⟨sb, rfl⟩ : ∃ sb, sa = ⟨sb, 0, none⟩ := by
                  rcases hl1.1.2 with ⟨q, _⟩ | ⟨g', c', cur', q, _⟩
                  · rw [hsa] at q; simp at q
                  · rw [hsa] at q; simp only [Value.slice.injEq, Option.some.injEq] at q; exact ⟨g', q.1⟩
                obtain ⟨hsB, hslt, cur, hcur⟩ := Own.block_lt hl1.1 hsa
                have hcj : wr.cell? ⟨sb, j, none⟩ = some (.int .i64 (l1[j]'(by omega))) := by
                  obtain ⟨b1, o1, e1, e2⟩ := hl1.2.1 j (by simp; omega)
                  rw [hsa] at e1
                  cases e1
                  simpa using e2
                have hfr : wr.frozen? ⟨sb, j, none⟩ = false := hcur.free j
                by_cases hko : kk < on
                · have hkl : kk < other.length := by rw [HON.out]; exact hko
                  obtain ⟨ob, oo, e3, e4⟩ := ho.1 kk (by simpa using hkl)
                  have hco : wr.cell? ⟨ob, oo + kk, none⟩ = some (.int .i64 other[kk]) := by
                    rw [hRR.out.below.cell (p := ⟨ob, oo + kk, none⟩) (World.block_lt_of_cell? w _ e4), e4]
                    simp
                  have hv := hog _ (List.getElem_mem hkl)
                  have HW := Lib.hid (hRR.write HMEM.out hsa j _ hv)
                  have HE3 := Lib.hid e3
                  have HSA := Lib.hid hsa
                  rw [hsa]
                  generalize l1[j] = y1 at *
                  generalize other[kk] = y2 at *
                  clear hv e4 hl1 hok hlen1 hcur hRR
                  rw [e3]
                  clear e3 hsa
                  go_wp2_with fail
                  rw [← HE3.out, ← HSA.out]
                  go_roundg (gk - 1)
                  case measure => omega
                  case rel => exact ⟨j + 1, kk + 1, by omega, by go_num, by go_num, by omega, HW.out⟩
                · have hkn : ¬ kk < on := hko
                  clear hl1 hok hlen1 hcur hcj hfr hsa
                  go_wp2_with fail
                  go_roundg (gk - 1)
                  case measure => omega
                  case rel => exact ⟨j + 1, kk, by omega, by go_num, rfl, hkk, hRR⟩
              · go_wp2_with fail
                go_roundg (gm - 1)
                case measure => omega
                case rel => exact ⟨m + 1, kk, by omega, by go_num, rfl, hkk, hRR⟩
          · have hmn : m = rn := by omega
            go_wp2_with fail
            go_roundg 0
            case measure => omega
            case rel => exact ⟨2, kk, h3, rfl, rfl, rfl, hkk, hRR.out⟩
    · simp only [idx]
      have hrz := hR.below.size
      obtain ⟨q, hq, hseen, hcells⟩ := hR.hid.at ha hR.att hR.ex hR.ey hn HN1.out.1 HN1.out.2.1 HN1.out.2.2.1 HN1.out.2.2.2
      have hT : Blk wr w2.heap.size (stateCells q h2).toArray 50 := by rw [hcells]; exact hR.t
      have hA := hR.s
      have hbr := hR.below
      have hs1 := seen_len p (n : Int) kp2
      have hof1 := of_any (n : Int) wr p h (ha.old hbr) ⟨by omega, by omega⟩
      have hof2 := fun (W : World) (hW : Below wr.heap.size wr W) => of_any (n : Int) W q h2 (hq.old hW) ⟨by omega, by omega⟩
      rw [hseen] at hof2
      generalize seen p (n : Int) = v at *
      have HO2 := Lib.hid hof2
      have HS1 := Lib.hid hs1
      clear hof2 hR hq hseen hcells hs1 hog ho
      unfold stateVal at hof1 HO2
      go_wp2_with (refine wpList_load_blkw (by rfl) 50 stateT (.tmp 3) rfl rfl hA rfl ?_)
      refine hof1.mono ?_
      clear hof1
      rintro e w3 ⟨g1, rfl, ho1, hb3⟩
      have hT := hT.old hb3
      have hbw3 : Below w.heap.size w w3 := below_step hbr hb3
      have hbz3 := hbw3.size
      go_upto_region 25 with (refine wpList_store_blk rfl 41 viewT (.tmp 14) _ rfl rfl rfl (Blk.new _ _ _) rfl rfl rfl ?_)
      (try simp only [Act.put])
      refine wp_forget (fun W0 => Blk W0 w3.heap.size (viewCells v g1).toArray 41 ∧ Blk W0 w2.heap.size _ _ ∧ ViewAt W0 v g1 ∧ Below w.heap.size w W0 ∧ Below wr.heap.size wr W0) ⟨(Blk.new _ _ _).setRow _, hT.old (by (try unfold Kept); repeat (first | assumption | exact Below.refl _ _ | exact below_undrew (Below.refl _ _) | exact Below.mono (by assumption) (by first | (simp; done) | (simp; omega) | omega) | refine below_setRow ?_ (by first | (simp; done) | (simp; omega) | omega) _ | refine Below.setCell ?_ (by first | (simp; done) | (simp; omega) | omega) _ | refine Below.alloc ?_ (by first | (simp; done) | (simp; omega) | omega) _ | refine below_drewN ?_ _ | refine Below.drew ?_ | refine below_undrew ?_ | refine below_step ?_ (by assumption))), ho1.at.old (by (try unfold Kept); repeat (first | assumption | exact Below.refl _ _ | exact below_undrew (Below.refl _ _) | exact Below.mono (by assumption) (by first | (simp; done) | (simp; omega) | omega) | refine below_setRow ?_ (by first | (simp; done) | (simp; omega) | omega) _ | refine Below.setCell ?_ (by first | (simp; done) | (simp; omega) | omega) _ | refine Below.alloc ?_ (by first | (simp; done) | (simp; omega) | omega) _ | refine below_drewN ?_ _ | refine Below.drew ?_ | refine below_undrew ?_ | refine below_step ?_ (by assumption))), by (try unfold Kept); repeat (first | assumption | exact Below.refl _ _ | exact below_undrew (Below.refl _ _) | exact Below.mono (by assumption) (by first | (simp; done) | (simp; omega) | omega) | refine below_setRow ?_ (by first | (simp; done) | (simp; omega) | omega) _ | refine Below.setCell ?_ (by first | (simp; done) | (simp; omega) | omega) _ | refine Below.alloc ?_ (by first | (simp; done) | (simp; omega) | omega) _ | refine below_drewN ?_ _ | refine Below.drew ?_ | refine below_undrew ?_ | refine below_step ?_ (by assumption)), below_step hb3 (by (try unfold Kept); repeat (first | assumption | exact Below.refl _ _ | exact below_undrew (Below.refl _ _) | exact Below.mono (by assumption) (by first | (simp; done) | (simp; omega) | omega) | refine below_setRow ?_ (by first | (simp; done) | (simp; omega) | omega) _ | refine Below.setCell ?_ (by first | (simp; done) | (simp; omega) | omega) _ | refine Below.alloc ?_ (by first | (simp; done) | (simp; omega) | omega) _ | refine below_drewN ?_ _ | refine Below.drew ?_ | refine below_undrew ?_ | refine below_step ?_ (by assumption)))⟩ ?_
      rintro W4 ⟨hV1, hT, hv1, hbw4, hbr4⟩
      clear hb3 hbw3 ho1
      go_wp2_with (refine wpList_load_blkw (by rfl) 50 stateT (.tmp 7) rfl rfl hT rfl ?_)
      refine (HO2.out _ hbr4).mono ?_
      rintro e w5 ⟨g2, rfl, ho2, hb5⟩
      have hV1 := hV1.old hb5
      have hv1 := hv1.old hb5
      have hbw5 : Below w.heap.size w w5 := below_step hbw4 hb5
      have hbz5 := hbw5.size
      go_upto_region 26 with (refine wpList_store_blk rfl 41 viewT (.tmp 16) _ rfl rfl rfl (Blk.new _ _ _) rfl rfl rfl ?_)
      (try simp only [Act.put])
      refine wp_forget (fun W0 => Blk W0 w3.heap.size (viewCells v g1).toArray 41 ∧ Blk W0 w5.heap.size (viewCells v g2).toArray 41 ∧ ViewAt W0 v g1 ∧ ViewAt W0 v g2 ∧ Below w.heap.size w W0) ⟨hV1.old (by (try unfold Kept); repeat (first | assumption | exact Below.refl _ _ | exact below_undrew (Below.refl _ _) | exact Below.mono (by assumption) (by first | (simp; done) | (simp; omega) | omega) | refine below_setRow ?_ (by first | (simp; done) | (simp; omega) | omega) _ | refine Below.setCell ?_ (by first | (simp; done) | (simp; omega) | omega) _ | refine Below.alloc ?_ (by first | (simp; done) | (simp; omega) | omega) _ | refine below_drewN ?_ _ | refine Below.drew ?_ | refine below_undrew ?_ | refine below_step ?_ (by assumption))), (Blk.new _ _ _).setRow _, hv1.old (by (try unfold Kept); repeat (first | assumption | exact Below.refl _ _ | exact below_undrew (Below.refl _ _) | exact Below.mono (by assumption) (by first | (simp; done) | (simp; omega) | omega) | refine below_setRow ?_ (by first | (simp; done) | (simp; omega) | omega) _ | refine Below.setCell ?_ (by first | (simp; done) | (simp; omega) | omega) _ | refine Below.alloc ?_ (by first | (simp; done) | (simp; omega) | omega) _ | refine below_drewN ?_ _ | refine Below.drew ?_ | refine below_undrew ?_ | refine below_step ?_ (by assumption))), ho2.at.old (by (try unfold Kept); repeat (first | assumption | exact Below.refl _ _ | exact below_undrew (Below.refl _ _) | exact Below.mono (by assumption) (by first | (simp; done) | (simp; omega) | omega) | refine below_setRow ?_ (by first | (simp; done) | (simp; omega) | omega) _ | refine Below.setCell ?_ (by first | (simp; done) | (simp; omega) | omega) _ | refine Below.alloc ?_ (by first | (simp; done) | (simp; omega) | omega) _ | refine below_drewN ?_ _ | refine Below.drew ?_ | refine below_undrew ?_ | refine below_step ?_ (by assumption))), by (try unfold Kept); repeat (first | assumption | exact Below.refl _ _ | exact below_undrew (Below.refl _ _) | exact Below.mono (by assumption) (by first | (simp; done) | (simp; omega) | omega) | refine below_setRow ?_ (by first | (simp; done) | (simp; omega) | omega) _ | refine Below.setCell ?_ (by first | (simp; done) | (simp; omega) | omega) _ | refine Below.alloc ?_ (by first | (simp; done) | (simp; omega) | omega) _ | refine below_drewN ?_ _ | refine Below.drew ?_ | refine below_undrew ?_ | refine below_step ?_ (by assumption))⟩ ?_
      rintro W6 ⟨hV1, hV2, hv1, hv2, hbw6⟩
      clear hb5 hbw5 ho2 hbw4 hbr4 hT hA
      have hsm := fun (W : World) (hW : Below W6.heap.size W6 W) => viewSame_any v v g1 g2 W (hv1.old hW) (hv2.old hW) HS1.out HS1.out
      have hb1 := fun (W : World) (hW : Below W6.heap.size W6 W) => bytes_any v g1 W (hv1.old hW) HS1.out
      have hb2 := fun (W : World) (hW : Below W6.heap.size W6 W) => bytes_any v g2 W (hv2.old hW) HS1.out
      rw [decide_eq_true (rfl : v = v)] at hsm
      have HSM := Lib.hid hsm
      have HB1 := Lib.hid hb1
      have HB2 := Lib.hid hb2
      clear hsm hb1 hb2 hv1 hv2
      unfold viewVal at HSM HB1 HB2
      refine wp_region_old (0 :: 1 :: 2 :: 3 :: 4 :: 5 :: 6 :: 7 :: 8 :: 9 :: 10 :: 11 :: 12 :: 15 :: 13 :: 14 :: 16 :: 17 :: 18 :: 19 :: 20 :: 21 :: 22 :: 23 :: []) (by kernel_rfl) (by kernel_rfl) (fun c a d v w h => by cases d <;> exact h) ?_
      repeat (first | (refine lex_skip rfl (by rfl) ?_; simp only [Act.put, List.setIfInBounds_toArray, List.set]) | (refine lex_quiet (v := ?_) rfl rfl (by rfl) ?_ ?_; rotate_left; (intro W hW; go_simp); (try with_reducible rfl); simp only [Act.put, List.setIfInBounds_toArray, List.set]))
      refine lex_quiet (v := .agg (viewCells v g1).toArray) rfl rfl (by rfl) (fun W hW => exec_load_as 41 viewT (.tmp 14) rfl rfl rfl (Blk.cells (hV1.drew.old hW)) rfl) ?_
      simp only [Act.put, List.setIfInBounds_toArray, List.set]
      refine lex_quiet (v := .agg (viewCells v g2).toArray) rfl rfl (by rfl) (fun W hW => exec_load_as 41 viewT (.tmp 16) rfl rfl rfl (Blk.cells (hV2.drew.old hW)) rfl) ?_
      simp only [Act.put, List.setIfInBounds_toArray, List.set]
      refine lex_loud rfl rfl (by rfl) (fun K hK => ?_); go_wp2_with fail
      refine (HSM.out _ ((Below.refl _ _).drew)).mono ?_
      rintro e y1 ⟨rfl, hb⟩
      go_wp2_with fail
      refine hK _ _ hb ?_
      clear hK K
      have hV1 := hV1.drew.old hb
      have hV2 := hV2.drew.old hb
      have hby : Below W6.heap.size W6 y1 := below_step (Below.refl _ _).drew hb
      clear hb
      repeat (first | (refine lex_skip rfl (by rfl) ?_; simp only [Act.put, List.setIfInBounds_toArray, List.set]) | (refine lex_quiet (v := ?_) rfl rfl (by rfl) ?_ ?_; rotate_left; (intro W hW; go_simp); (try with_reducible rfl); simp only [Act.put, List.setIfInBounds_toArray, List.set]))
      refine lex_quiet (v := .agg (viewCells v g1).toArray) rfl rfl (by rfl) (fun W hW => exec_load_as 41 viewT (.tmp 14) rfl rfl rfl (Blk.cells (hV1.old hW)) rfl) ?_
      simp only [Act.put, List.setIfInBounds_toArray, List.set]
      refine lex_quiet (v := .agg (viewCells v g2).toArray) rfl rfl (by rfl) (fun W hW => exec_load_as 41 viewT (.tmp 16) rfl rfl rfl (Blk.cells (hV2.old hW)) rfl) ?_
      simp only [Act.put, List.setIfInBounds_toArray, List.set]
      refine lex_loud rfl rfl (by rfl) (fun K hK => ?_); go_wp2_with fail
      refine (HB1.out _ hby).mono ?_
      rintro e y2 ⟨a1, c1, rfl, hr1, hb⟩
      have k1 := str_of y2 a1 _ c1 _ hr1.row rfl
      go_wp2_with fail
      refine hK _ _ hb ?_
      clear hK K
      have hby2 : Below W6.heap.size W6 y2 := below_step hby hb
      clear hb
      repeat (first | (refine lex_skip rfl (by rfl) ?_; simp only [Act.put, List.setIfInBounds_toArray, List.set]) | (refine lex_quiet (v := ?_) rfl rfl (by rfl) ?_ ?_; rotate_left; (intro W hW; go_simp); (try with_reducible rfl); simp only [Act.put, List.setIfInBounds_toArray, List.set]))
      refine lex_loud rfl rfl (by rfl) (fun K hK => ?_); go_wp2_with fail
      refine (HB2.out _ hby2).mono ?_
      rintro e y3 ⟨a2, c2, rfl, hr2, hb⟩
      have k2 := str_of y3 a2 _ c2 _ hr2.row rfl
      go_wp2_with fail
      refine hK _ _ hb ?_
      clear hK K
      have hby3 : Below W6.heap.size W6 y3 := below_step hby2 hb
      clear hb
      repeat (first | (refine lex_skip rfl (by rfl) ?_; simp only [Act.put, List.setIfInBounds_toArray, List.set]) | (refine lex_quiet (v := ?_) rfl rfl (by rfl) ?_ ?_; rotate_left; (intro W hW; go_simp); (try with_reducible rfl); simp only [Act.put, List.setIfInBounds_toArray, List.set]))
      refine lex_loud rfl rfl (by rfl) (fun K hK => ?_); go_wp2_with fail
      refine (viewWakes_any _).mono ?_
      rintro e y4 ⟨rfl, hb4⟩
      go_wp2_with fail
      refine hK _ _ hb4 ?_
      clear hK K
      repeat (first | (refine lex_skip rfl (by rfl) ?_; simp only [Act.put, List.setIfInBounds_toArray, List.set]) | (refine lex_quiet (v := ?_) rfl rfl (by rfl) ?_ ?_; rotate_left; (intro W hW; go_simp); (try with_reducible rfl); simp only [Act.put, List.setIfInBounds_toArray, List.set]))
      refine lex_nil ?_
      go_wp2_with fail
      go_ret
      exact ⟨rfl, below_step (below_step hbw6 hby3) hb4⟩
end Go.Proofs.Ytiglljegpdlnmaa

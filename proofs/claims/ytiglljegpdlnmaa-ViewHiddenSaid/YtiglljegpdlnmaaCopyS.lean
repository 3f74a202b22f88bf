/- A state copied: its rows are new, and lie apart. -/
import Derived.Test.YtiglljegpdlnmaaViewOf
namespace Go.Proofs.Ytiglljegpdlnmaa
open Go.RowKit
set_option linter.unusedSimpArgs false
set_option linter.unusedVariables false

theorem Own.keepAt {w w' : World} {B : Nat} {e : TypeId} {size : Nat} {a : Option Addr} {n c : Nat} {vs : List Value} (h : Own w B e size a n c vs) (hk : ∀ x, a = some x → w'.heap[x.block]? = w.heap[x.block]?) : Own w' B e size a n c vs := by
  obtain ⟨h1, h2⟩ := h
  refine ⟨h1, ?_⟩
  rcases h2 with h2 | ⟨g, cap, cur, hv, hB, hg, rest⟩
  · exact .inl h2
  · refine .inr ⟨g, cap, cur, hv, hB, ?_, rest⟩
    simp only [Value.slice.injEq] at hv
    exact (hk _ hv.1).trans hg
theorem Own.block_lt {w : World} {B : Nat} {e : TypeId} {size : Nat} {a : Option Addr} {n c : Nat} {vs : List Value} (h : Own w B e size a n c vs) {x : Addr} (hx : a = some x) : B ≤ x.block ∧ x.block < w.heap.size ∧ ∃ cur, Blk w x.block cur e := by
  obtain ⟨h1, h2⟩ := h
  rcases h2 with ⟨h2, _⟩ | ⟨g, cap, cur, hv, hB, hg, rest⟩
  · simp only [Value.slice.injEq] at h2
    rw [hx] at h2
    cases h2.1
  · simp only [Value.slice.injEq] at hv
    rw [hx] at hv
    cases hv.1
    exact ⟨hB, (Array.getElem?_eq_some_iff.1 hg).1, cur, hg⟩
def Apart (s t : Sl) : Prop := ∀ a b, s.a = some a → t.a = some b → a.block ≠ b.block
def InB (lo hi : Nat) (s : Sl) : Prop := ∀ a, s.a = some a → lo ≤ a.block ∧ a.block < hi
theorem OwnInts.inB {w : World} {B : Nat} {s : Sl} {l : List Int} (h : OwnInts w B s l) : InB B w.heap.size s := fun a ha => ⟨(Own.block_lt h.1 ha).1, (Own.block_lt h.1 ha).2.1⟩
theorem InB.mono {lo hi lo' hi' : Nat} {s : Sl} (h : InB lo hi s) (h1 : lo' ≤ lo) (h2 : hi ≤ hi') : InB lo' hi' s := fun a ha => ⟨Nat.le_trans h1 (h a ha).1, Nat.lt_of_lt_of_le (h a ha).2 h2⟩
theorem InB.apart {lo hi lo' hi' : Nat} {s t : Sl} (h : InB lo hi s) (h' : InB lo' hi' t) (hle : hi ≤ lo') : Apart s t := fun a b ha hb e => by
  have := (h a ha).2
  have := (h' b hb).1
  omega
/-- The rows of a side lie in their order. -/
structure SideSep (lo hi : Nat) (h : SideH) : Prop where
  mk2 : ∃ n1 n2 n3, lo ≤ n1 ∧ n1 ≤ n2 ∧ n2 ≤ n3 ∧ n3 ≤ hi ∧ InB lo n1 h.deck ∧ InB n1 n2 h.hand ∧ InB n2 n3 h.grave ∧ InB n3 hi h.told
/-- So do those of a state. -/
def StateSep (lo hi : Nat) (h : StateH) : Prop := ∃ n1 n2, lo ≤ n1 ∧ n1 ≤ n2 ∧ n2 ≤ hi ∧ InB lo n1 h.attack ∧ SideSep n1 n2 h.x ∧ SideSep n2 hi h.y
def CopyRel (w : World) (p : StateP) (h : StateH) (g : Nat) (s0 : Sl) (f : Nat) (i : Value) (w' : World) : Prop :=
  ∃ (k : Nat) (hx hy : SideH), k + f = 2 ∧ i = idx k ∧ Blk w' g (stateCells p ⟨s0, hx, hy⟩).toArray 50 ∧ Blk w' w.heap.size (stateCells p h).toArray 50 ∧ (∃ cs, Blk w' (w.heap.size + 1) cs 50 ∧ cs.size = 23) ∧ Below w.heap.size w w' ∧
    OwnInts w' w.heap.size s0 p.attack ∧ ∃ n1 n2, w.heap.size ≤ n1 ∧ n1 ≤ n2 ∧ n2 ≤ w'.heap.size ∧ InB w.heap.size n1 s0 ∧ (k = 0 → n2 = n1 ∧ hx = h.x ∧ hy = h.y) ∧ (1 ≤ k → SideOwn w' w.heap.size p.x hx ∧ SideSep n1 n2 hx) ∧ (k = 1 → hy = h.y) ∧ (2 ≤ k → SideOwn w' w.heap.size p.y hy ∧ SideSep n2 w'.heap.size hy)
set_option maxRecDepth 100000 in
set_option maxHeartbeats 8000000 in
theorem copyS_any (p : StateP) (h : StateH) (w : World) (ha : StateAt w p h) :
    Calls Try.prog 23 #[stateVal p h] w fun e w' => ∃ h', e = .returned (stateVal p h') ∧ StateOwn w' w.heap.size p h' ∧ StateSep w.heap.size w'.heap.size h' ∧ Below w.heap.size w w' := by
  obtain ⟨turn, mover, phase, struck, result, attack, next, ⟨xl, xm, xt, xd, xh, xg, xu, xo⟩, ⟨yl, ym, yt, yd, yh, yg, yu, yo⟩⟩ := p
  obtain ⟨⟨aa, an, ac⟩, ⟨⟨xda, xdn, xdc⟩, ⟨xha, xhn, xhc⟩, ⟨xga, xgn, xgc⟩, ⟨xua, xun, xuc⟩, ⟨xoa, xon, xoc⟩⟩, ⟨⟨yda, ydn, ydc⟩, ⟨yha, yhn, yhc⟩, ⟨yga, ygn, ygc⟩, ⟨yua, yun, yuc⟩, ⟨yoa, yon, yoc⟩⟩⟩ := h
  unfold stateVal
  dsimp only
  go_enter Try.func23, Try.ntmps23
  go_upto_region 2 with (first | refine wpList_load_blk rfl 50 stateT (.tmp 1) rfl rfl (Blk.new2 _ _ _ _) rfl ?_ | refine wpList_store_blk rfl 50 stateT (.tmp 3) _ rfl rfl rfl (Blk.new3'' _ _ _ _ _) rfl rfl rfl ?_)
  (try simp only [Act.put])
  refine wp_forget (fun W0 => Blk W0 w.heap.size _ _ ∧ (∃ cs, Blk W0 (w.heap.size + 1) cs 50 ∧ cs.size = 23) ∧ Blk W0 (w.heap.size + 2) _ _ ∧ Below w.heap.size w W0 ∧ w.heap.size + 3 ≤ W0.heap.size)
    ⟨(Blk.new3 _ _ _ _ _).setRow_other _ _ (by first | (simp; done) | (simp; omega) | omega), ⟨_, (Blk.new3' _ _ _ _ _).setRow_other _ _ (by first | (simp; done) | (simp; omega) | omega), rfl⟩, (Blk.new3'' _ _ _ _ _).setRow _, by (try unfold Kept); repeat (first | assumption | exact Below.refl _ _ | exact below_undrew (Below.refl _ _) | exact Below.mono (by assumption) (by first | (simp; done) | (simp; omega) | omega) | refine below_setRow ?_ (by first | (simp; done) | (simp; omega) | omega) _ | refine Below.setCell ?_ (by first | (simp; done) | (simp; omega) | omega) _ | refine Below.alloc ?_ (by first | (simp; done) | (simp; omega) | omega) _ | refine below_drewN ?_ _ | refine Below.drew ?_ | refine below_undrew ?_ | refine below_step ?_ (by assumption)), by simp [World.setRow]⟩ ?_
  rintro W0 ⟨hA, ⟨cs1, hC, hcs⟩, hO, hbW, hzW⟩
  have rA := hA.rule
  go_wp2_with fail
  refine (row_own aa an ac attack _ (ha.attack.old hbW)).mono ?_
  rintro e w1 ⟨s0, rfl, ho0, hb1⟩
  have hO1 := hO.old hb1
  have f1 := hO1.free
  have c1 := hO1.rule
  have hA1 := hA.old hb1
  have hC1 := hC.old hb1
  have hbw1 := below_step hbW hb1
  have hz1 := hb1.size
  clear rA
  go_upto_region 3 with (fail)
  refine wp_forget (fun W1 => Blk W1 (w.heap.size + 2) (stateCells ⟨turn, mover, phase, struck, result, attack, next, ⟨xl, xm, xt, xd, xh, xg, xu, xo⟩, ⟨yl, ym, yt, yd, yh, yg, yu, yo⟩⟩ ⟨s0, ⟨⟨xda, xdn, xdc⟩, ⟨xha, xhn, xhc⟩, ⟨xga, xgn, xgc⟩, ⟨xua, xun, xuc⟩, ⟨xoa, xon, xoc⟩⟩, ⟨⟨yda, ydn, ydc⟩, ⟨yha, yhn, yhc⟩, ⟨yga, ygn, ygc⟩, ⟨yua, yun, yuc⟩, ⟨yoa, yon, yoc⟩⟩⟩).toArray 50 ∧ Blk W1 w.heap.size _ _ ∧ (∃ cs, Blk W1 (w.heap.size + 1) cs 50 ∧ cs.size = 23) ∧ Below w.heap.size w W1 ∧ OwnInts W1 W0.heap.size s0 attack) ⟨hO1.set 5 _, hA1.other _ _ (by first | (simp; done) | (simp; omega) | omega), ⟨cs1, hC1.other _ _ (by first | (simp; done) | (simp; omega) | omega), hcs⟩, hbw1.setCell (by simp; omega) _, ho0.set _ _ (by simp; omega)⟩ ?_
  rintro W1 ⟨hO, hA, ⟨cs2, hC, hcs⟩, hbw, ho0⟩
  clear hO1 f1 c1 hA1 hC1 hbw1 hz1 hb1 hbW
  have hz1 := hbw.size
  go_wp2_with fail
  go_loopg [4] 2 (CopyRel w ⟨turn, mover, phase, struck, result, attack, next, ⟨xl, xm, xt, xd, xh, xg, xu, xo⟩, ⟨yl, ym, yt, yd, yh, yg, yu, yo⟩⟩ ⟨⟨aa, an, ac⟩, ⟨⟨xda, xdn, xdc⟩, ⟨xha, xhn, xhc⟩, ⟨xga, xgn, xgc⟩, ⟨xua, xun, xuc⟩, ⟨xoa, xon, xoc⟩⟩, ⟨⟨yda, ydn, ydc⟩, ⟨yha, yhn, yhc⟩, ⟨yga, ygn, ygc⟩, ⟨yua, yun, yuc⟩, ⟨yoa, yon, yoc⟩⟩⟩ (w.heap.size + 2) s0)
  case atStart => exact ⟨0, _, _, rfl, rfl, hO, hA, ⟨cs2, hC, hcs⟩, hbw, ho0.lower (by omega), W1.heap.size, W1.heap.size, by omega, Nat.le_refl _, Nat.le_refl _, ho0.inB.mono (by omega) (Nat.le_refl _), fun _ => ⟨rfl, rfl, rfl⟩, fun h => by omega, fun h => by omega, fun h => by omega⟩
  case round =>
    obtain ⟨k, hx, hy, hk, rfl, hO, hA, ⟨cs3, hC, hcs⟩, hbr, ho0, n1, n2, hn0, hn1, hn2, hin, hk0, hk1, hk1', hk2⟩ := hrel
    have hrz := hbr.size
    rcases (show k = 0 ∨ k = 1 ∨ k = 2 by omega) with rfl | rfl | rfl
    · obtain ⟨rfl, rfl, rfl⟩ := hk0 rfl
      simp only [idx]
      obtain ⟨wo, rfl⟩ : ∃ wo : World, wo = wr := ⟨_, rfl⟩
      have hp : (((stateCells ⟨turn, mover, phase, struck, result, attack, next, ⟨xl, xm, xt, xd, xh, xg, xu, xo⟩, ⟨yl, ym, yt, yd, yh, yg, yu, yo⟩⟩ (⟨⟨aa, an, ac⟩, ⟨⟨xda, xdn, xdc⟩, ⟨xha, xhn, xhc⟩, ⟨xga, xgn, xgc⟩, ⟨xua, xun, xuc⟩, ⟨xoa, xon, xoc⟩⟩, ⟨⟨yda, ydn, ydc⟩, ⟨yha, yhn, yhc⟩, ⟨yga, ygn, ygc⟩, ⟨yua, yun, yuc⟩, ⟨yoa, yon, yoc⟩⟩⟩ : StateH)).toArray.toList.drop 7).take 8) = sideCells ⟨xl, xm, xt, xd, xh, xg, xu, xo⟩ ⟨⟨xda, xdn, xdc⟩, ⟨xha, xhn, xhc⟩, ⟨xga, xgn, xgc⟩, ⟨xua, xun, xuc⟩, ⟨xoa, xon, xoc⟩⟩ := rfl
      go_upto_region 7 with (first | refine wpList_load_part rfl 47 sideT (.tmp 17) rfl rfl hA hp rfl ?_ | refine wpList_store_blk rfl 47 sideT (.tmp 5) _ rfl rfl rfl (Blk.new _ _ _) rfl rfl rfl ?_)
      (try simp only [Act.put])
      refine wp_forget (fun W2 => Blk W2 wo.heap.size (sideCells ⟨xl, xm, xt, xd, xh, xg, xu, xo⟩ ⟨⟨xda, xdn, xdc⟩, ⟨xha, xhn, xhc⟩, ⟨xga, xgn, xgc⟩, ⟨xua, xun, xuc⟩, ⟨xoa, xon, xoc⟩⟩).toArray 47 ∧ Below wo.heap.size wo W2 ∧ wo.heap.size + 1 ≤ W2.heap.size) ⟨(Blk.new _ _ _).setRow _, by (try unfold Kept); repeat (first | assumption | exact Below.refl _ _ | exact below_undrew (Below.refl _ _) | exact Below.mono (by assumption) (by first | (simp; done) | (simp; omega) | omega) | refine below_setRow ?_ (by first | (simp; done) | (simp; omega) | omega) _ | refine Below.setCell ?_ (by first | (simp; done) | (simp; omega) | omega) _ | refine Below.alloc ?_ (by first | (simp; done) | (simp; omega) | omega) _ | refine below_drewN ?_ _ | refine Below.drew ?_ | refine below_undrew ?_ | refine below_step ?_ (by assumption)), by simp [World.setRow]⟩ ?_
      rintro W2 ⟨hE, hb2, hz2⟩
      have hOl := hO.lt
      have hO := hO.old hb2
      have hA := hA.old hb2
      have hC := hC.old hb2
      have ho0 := ho0.old hb2
      have hbr := below_step hbr hb2
      have r8 := fun W (hW : Old W2.drew W) => (hE.drew.old hW).rule
      unfold sideCells at r8
      have hbr0 := hbr.size
      refine wp_region_treeR true Old Old.refl Old.trans (.step 0 (.step 1 (.step 2 (.step 3 (.step 4 (.step 5 (.step 6 (.step 7 (.step 8 (.step 10 (.step 11 (.step 13 (.step 14 (.step 16 (.step 17 (.step 19 (.step 20 (.step 23 (.step 9 (.step 12 (.step 15 (.step 18 (.step 21 (.step 22 (.step 24 (.step 25 .done)))))))))))))))))))))))))) (by kernel_rfl) (by kernel_rfl) (fun c a d v w h => by cases d <;> exact h) ?_
      repeat (first | (refine tree_skip rfl (by rfl) ?_; simp only [Act.put, List.setIfInBounds_toArray, List.set]) | (refine tree_quiet (v := ?_) rfl rfl (by rfl) ?_ ?_; rotate_left; (intro W hW; go_simp); (try with_reducible rfl); simp only [Act.put, List.setIfInBounds_toArray, List.set]))
      refine tree_loud rfl rfl (by rfl) (fun K hK => ?_); go_wp2_with fail
      refine (row_own xda xdn xdc xd _ (ha.x.deck.old hbr.drew)).mono ?_
      rintro e z1 ⟨s1, rfl, ho1, hb1⟩
      go_wp2_with fail
      refine hK _ _ hb1 ?_
      clear hK K
      have hbw1 : Below w.heap.size w z1 := below_step hbr.drew hb1
      repeat (first | (refine tree_skip rfl (by rfl) ?_; simp only [Act.put, List.setIfInBounds_toArray, List.set]) | (refine tree_quiet (v := ?_) rfl rfl (by rfl) ?_ ?_; rotate_left; (intro W hW; go_simp); (try with_reducible rfl); simp only [Act.put, List.setIfInBounds_toArray, List.set]))
      refine tree_loud rfl rfl (by rfl) (fun K hK => ?_); go_wp2_with fail
      refine (row_own xha xhn xhc xh _ (ha.x.hand.old hbw1)).mono ?_
      rintro e z2 ⟨s2, rfl, ho2, hb2'⟩
      go_wp2_with fail
      refine hK _ _ hb2' ?_
      clear hK K
      have hbw2 : Below w.heap.size w z2 := below_step hbw1 hb2'
      repeat (first | (refine tree_skip rfl (by rfl) ?_; simp only [Act.put, List.setIfInBounds_toArray, List.set]) | (refine tree_quiet (v := ?_) rfl rfl (by rfl) ?_ ?_; rotate_left; (intro W hW; go_simp); (try with_reducible rfl); simp only [Act.put, List.setIfInBounds_toArray, List.set]))
      refine tree_loud rfl rfl (by rfl) (fun K hK => ?_); go_wp2_with fail
      refine (row_own xga xgn xgc xg _ (ha.x.grave.old hbw2)).mono ?_
      rintro e z3 ⟨s3, rfl, ho3, hb3⟩
      go_wp2_with fail
      refine hK _ _ hb3 ?_
      clear hK K
      have hbw3 : Below w.heap.size w z3 := below_step hbw2 hb3
      repeat (first | (refine tree_skip rfl (by rfl) ?_; simp only [Act.put, List.setIfInBounds_toArray, List.set]) | (refine tree_quiet (v := ?_) rfl rfl (by rfl) ?_ ?_; rotate_left; (intro W hW; go_simp); (try with_reducible rfl); simp only [Act.put, List.setIfInBounds_toArray, List.set]))
      refine tree_loud rfl rfl (by rfl) (fun K hK => ?_); go_wp2_with fail
      refine (things_own xua xun xuc xu _ (ha.x.units.old hbw3)).mono ?_
      rintro e z4 ⟨s4, rfl, ho4, hb4⟩
      go_wp2_with fail
      refine hK _ _ hb4 ?_
      clear hK K
      have hbw4 : Below w.heap.size w z4 := below_step hbw3 hb4
      repeat (first | (refine tree_skip rfl (by rfl) ?_; simp only [Act.put, List.setIfInBounds_toArray, List.set]) | (refine tree_quiet (v := ?_) rfl rfl (by rfl) ?_ ?_; rotate_left; (intro W hW; go_simp); (try with_reducible rfl); simp only [Act.put, List.setIfInBounds_toArray, List.set]))
      refine tree_loud rfl rfl (by rfl) (fun K hK => ?_); go_wp2_with fail
      refine (row_own xoa xon xoc xo _ (ha.x.told.old hbw4)).mono ?_
      rintro e z5 ⟨s5, rfl, ho5, hb5⟩
      go_wp2_with fail
      refine hK _ _ hb5 ?_
      clear hK K
      have hbw5 : Below w.heap.size w z5 := below_step hbw4 hb5
      repeat (first | (refine tree_skip rfl (by rfl) ?_; simp only [Act.put, List.setIfInBounds_toArray, List.set]) | (refine tree_quiet (v := ?_) rfl rfl (by rfl) ?_ ?_; rotate_left; (intro W hW; go_simp); (try with_reducible rfl); simp only [Act.put, List.setIfInBounds_toArray, List.set]))
      have h15 : Below W2.heap.size W2 z5 := below_step (below_step (below_step (below_step (below_step (Below.refl _ _).drew hb1) hb2') hb3) hb4) hb5
      have hO := hO.old h15
      have hA := hA.old h15
      have hC := hC.old h15
      have ho0 := ho0.old h15
      have c5 := hb5
      have c4 := below_step hb4 hb5
      have c3 := below_step hb3 c4
      have c2 := below_step hb2' c3
      refine tree_store rfl rfl (by rfl) (fun K hK => ?_)
      refine wp_store_at 47 sideT (.tmp 43) (.tmp 41) rfl rfl rfl hO rfl (by show 7 + 8 ≤ 23; omega) rfl ?_
      refine hK _ _ ?_
      clear hK K
      refine tree_done ?_
      have y0 : W2.heap.size ≤ z1.heap.size := hb1.size
      have y1 := hb2'.size
      have y2 := hb3.size
      have y3 := hb4.size
      have y4 := hb5.size
      have yw : wo.heap.size ≤ W2.heap.size := hb2.size
      have lt2 : w.heap.size + 2 < W2.heap.size := by have := hOl; omega
      go_wp2_with fail
      go_roundg 1
      case measure => omega
      case rel =>
        have i1 : InB W2.heap.size z1.heap.size s1 := ho1.inB
        have i2 : InB z1.heap.size z2.heap.size s2 := ho2.inB
        have i3 : InB z2.heap.size z3.heap.size s3 := ho3.inB
        have i5 : InB z4.heap.size z5.heap.size s5 := ho5.inB
        have so : ∀ cs, SideOwn (z5.setRow (w.heap.size + 2) cs) w.heap.size ⟨xl, xm, xt, xd, xh, xg, xu, xo⟩ ⟨s1, s2, s3, s4, s5⟩ := fun cs => ⟨ha.x.life, ha.x.mana, ha.x.most, ((ho1.old c2).setRow _ _ lt2).lower hbr0, ((ho2.old c3).setRow _ _ (by omega)).lower (by omega), ((ho3.old c4).setRow _ _ (by omega)).lower (by omega), ((ho4.old c5).setRow _ _ (by omega)).lower (by omega), (ho5.setRow _ _ (by omega)).lower (by omega)⟩
        refine ⟨1, ⟨s1, s2, s3, s4, s5⟩, ⟨⟨yda, ydn, ydc⟩, ⟨yha, yhn, yhc⟩, ⟨yga, ygn, ygc⟩, ⟨yua, yun, yuc⟩, ⟨yoa, yon, yoc⟩⟩, rfl, rfl, hO.setRow _, hA.setRow_other _ _ (by omega), ⟨cs3, hC.setRow_other _ _ (by omega), hcs⟩, below_setRow hbw5 (by omega) _, ho0.put hO (by decide) (by decide) _, n2, z5.heap.size, by omega, by omega, by simp [World.setRow], hin, fun h => by omega, fun _ => ⟨so _, ⟨z1.heap.size, z2.heap.size, z3.heap.size, by omega, by omega, by omega, by omega, i1.mono (by omega) (Nat.le_refl _), i2, i3, i5.mono (by omega) (Nat.le_refl _)⟩⟩, fun _ => rfl, fun h => by omega⟩
    · obtain rfl := hk1' rfl
      have hsep := (hk1 (Nat.le_refl _)).2
      simp only [idx]
      obtain ⟨wo, rfl⟩ : ∃ wo : World, wo = wr := ⟨_, rfl⟩
      have hp : (((stateCells ⟨turn, mover, phase, struck, result, attack, next, ⟨xl, xm, xt, xd, xh, xg, xu, xo⟩, ⟨yl, ym, yt, yd, yh, yg, yu, yo⟩⟩ (⟨⟨aa, an, ac⟩, ⟨⟨xda, xdn, xdc⟩, ⟨xha, xhn, xhc⟩, ⟨xga, xgn, xgc⟩, ⟨xua, xun, xuc⟩, ⟨xoa, xon, xoc⟩⟩, ⟨⟨yda, ydn, ydc⟩, ⟨yha, yhn, yhc⟩, ⟨yga, ygn, ygc⟩, ⟨yua, yun, yuc⟩, ⟨yoa, yon, yoc⟩⟩⟩ : StateH)).toArray.toList.drop 15).take 8) = sideCells ⟨yl, ym, yt, yd, yh, yg, yu, yo⟩ ⟨⟨yda, ydn, ydc⟩, ⟨yha, yhn, yhc⟩, ⟨yga, ygn, ygc⟩, ⟨yua, yun, yuc⟩, ⟨yoa, yon, yoc⟩⟩ := rfl
      go_upto_region 7 with (first | refine wpList_load_part rfl 47 sideT (.tmp 17) rfl rfl hA hp rfl ?_ | refine wpList_store_blk rfl 47 sideT (.tmp 5) _ rfl rfl rfl (Blk.new _ _ _) rfl rfl rfl ?_)
      (try simp only [Act.put])
      refine wp_forget (fun W2 => Blk W2 wo.heap.size (sideCells ⟨yl, ym, yt, yd, yh, yg, yu, yo⟩ ⟨⟨yda, ydn, ydc⟩, ⟨yha, yhn, yhc⟩, ⟨yga, ygn, ygc⟩, ⟨yua, yun, yuc⟩, ⟨yoa, yon, yoc⟩⟩).toArray 47 ∧ Below wo.heap.size wo W2 ∧ wo.heap.size + 1 ≤ W2.heap.size) ⟨(Blk.new _ _ _).setRow _, by (try unfold Kept); repeat (first | assumption | exact Below.refl _ _ | exact below_undrew (Below.refl _ _) | exact Below.mono (by assumption) (by first | (simp; done) | (simp; omega) | omega) | refine below_setRow ?_ (by first | (simp; done) | (simp; omega) | omega) _ | refine Below.setCell ?_ (by first | (simp; done) | (simp; omega) | omega) _ | refine Below.alloc ?_ (by first | (simp; done) | (simp; omega) | omega) _ | refine below_drewN ?_ _ | refine Below.drew ?_ | refine below_undrew ?_ | refine below_step ?_ (by assumption)), by simp [World.setRow]⟩ ?_
      rintro W2 ⟨hE, hb2, hz2⟩
      have hOl := hO.lt
      have hO := hO.old hb2
      have hA := hA.old hb2
      have hC := hC.old hb2
      have ho0 := ho0.old hb2
      have hk1 := (hk1 (Nat.le_refl _)).1.old hb2
      have hbr := below_step hbr hb2
      have r8 := fun W (hW : Old W2.drew W) => (hE.drew.old hW).rule
      unfold sideCells at r8
      have hbr0 := hbr.size
      refine wp_region_treeR true Old Old.refl Old.trans (.step 0 (.step 1 (.step 2 (.step 3 (.step 4 (.step 5 (.step 6 (.step 7 (.step 8 (.step 10 (.step 11 (.step 13 (.step 14 (.step 16 (.step 17 (.step 19 (.step 20 (.step 23 (.step 9 (.step 12 (.step 15 (.step 18 (.step 21 (.step 22 (.step 24 (.step 25 .done)))))))))))))))))))))))))) (by kernel_rfl) (by kernel_rfl) (fun c a d v w h => by cases d <;> exact h) ?_
      repeat (first | (refine tree_skip rfl (by rfl) ?_; simp only [Act.put, List.setIfInBounds_toArray, List.set]) | (refine tree_quiet (v := ?_) rfl rfl (by rfl) ?_ ?_; rotate_left; (intro W hW; go_simp); (try with_reducible rfl); simp only [Act.put, List.setIfInBounds_toArray, List.set]))
      refine tree_loud rfl rfl (by rfl) (fun K hK => ?_); go_wp2_with fail
      refine (row_own yda ydn ydc yd _ (ha.y.deck.old hbr.drew)).mono ?_
      rintro e z1 ⟨s1, rfl, ho1, hb1⟩
      go_wp2_with fail
      refine hK _ _ hb1 ?_
      clear hK K
      have hbw1 : Below w.heap.size w z1 := below_step hbr.drew hb1
      repeat (first | (refine tree_skip rfl (by rfl) ?_; simp only [Act.put, List.setIfInBounds_toArray, List.set]) | (refine tree_quiet (v := ?_) rfl rfl (by rfl) ?_ ?_; rotate_left; (intro W hW; go_simp); (try with_reducible rfl); simp only [Act.put, List.setIfInBounds_toArray, List.set]))
      refine tree_loud rfl rfl (by rfl) (fun K hK => ?_); go_wp2_with fail
      refine (row_own yha yhn yhc yh _ (ha.y.hand.old hbw1)).mono ?_
      rintro e z2 ⟨s2, rfl, ho2, hb2'⟩
      go_wp2_with fail
      refine hK _ _ hb2' ?_
      clear hK K
      have hbw2 : Below w.heap.size w z2 := below_step hbw1 hb2'
      repeat (first | (refine tree_skip rfl (by rfl) ?_; simp only [Act.put, List.setIfInBounds_toArray, List.set]) | (refine tree_quiet (v := ?_) rfl rfl (by rfl) ?_ ?_; rotate_left; (intro W hW; go_simp); (try with_reducible rfl); simp only [Act.put, List.setIfInBounds_toArray, List.set]))
      refine tree_loud rfl rfl (by rfl) (fun K hK => ?_); go_wp2_with fail
      refine (row_own yga ygn ygc yg _ (ha.y.grave.old hbw2)).mono ?_
      rintro e z3 ⟨s3, rfl, ho3, hb3⟩
      go_wp2_with fail
      refine hK _ _ hb3 ?_
      clear hK K
      have hbw3 : Below w.heap.size w z3 := below_step hbw2 hb3
      repeat (first | (refine tree_skip rfl (by rfl) ?_; simp only [Act.put, List.setIfInBounds_toArray, List.set]) | (refine tree_quiet (v := ?_) rfl rfl (by rfl) ?_ ?_; rotate_left; (intro W hW; go_simp); (try with_reducible rfl); simp only [Act.put, List.setIfInBounds_toArray, List.set]))
      refine tree_loud rfl rfl (by rfl) (fun K hK => ?_); go_wp2_with fail
      refine (things_own yua yun yuc yu _ (ha.y.units.old hbw3)).mono ?_
      rintro e z4 ⟨s4, rfl, ho4, hb4⟩
      go_wp2_with fail
      refine hK _ _ hb4 ?_
      clear hK K
      have hbw4 : Below w.heap.size w z4 := below_step hbw3 hb4
      repeat (first | (refine tree_skip rfl (by rfl) ?_; simp only [Act.put, List.setIfInBounds_toArray, List.set]) | (refine tree_quiet (v := ?_) rfl rfl (by rfl) ?_ ?_; rotate_left; (intro W hW; go_simp); (try with_reducible rfl); simp only [Act.put, List.setIfInBounds_toArray, List.set]))
      refine tree_loud rfl rfl (by rfl) (fun K hK => ?_); go_wp2_with fail
      refine (row_own yoa yon yoc yo _ (ha.y.told.old hbw4)).mono ?_
      rintro e z5 ⟨s5, rfl, ho5, hb5⟩
      go_wp2_with fail
      refine hK _ _ hb5 ?_
      clear hK K
      have hbw5 : Below w.heap.size w z5 := below_step hbw4 hb5
      repeat (first | (refine tree_skip rfl (by rfl) ?_; simp only [Act.put, List.setIfInBounds_toArray, List.set]) | (refine tree_quiet (v := ?_) rfl rfl (by rfl) ?_ ?_; rotate_left; (intro W hW; go_simp); (try with_reducible rfl); simp only [Act.put, List.setIfInBounds_toArray, List.set]))
      have h15 : Below W2.heap.size W2 z5 := below_step (below_step (below_step (below_step (below_step (Below.refl _ _).drew hb1) hb2') hb3) hb4) hb5
      have hO := hO.old h15
      have hA := hA.old h15
      have hC := hC.old h15
      have ho0 := ho0.old h15
      have hk1 := hk1.old h15
      have c5 := hb5
      have c4 := below_step hb4 hb5
      have c3 := below_step hb3 c4
      have c2 := below_step hb2' c3
      refine tree_store rfl rfl (by rfl) (fun K hK => ?_)
      refine wp_store_at 47 sideT (.tmp 43) (.tmp 41) rfl rfl rfl hO rfl (by show 15 + 8 ≤ 23; omega) rfl ?_
      refine hK _ _ ?_
      clear hK K
      refine tree_done ?_
      have y0 : W2.heap.size ≤ z1.heap.size := hb1.size
      have y1 := hb2'.size
      have y2 := hb3.size
      have y3 := hb4.size
      have y4 := hb5.size
      have yw : wo.heap.size ≤ W2.heap.size := hb2.size
      have lt2 : w.heap.size + 2 < W2.heap.size := by have := hOl; omega
      go_wp2_with fail
      go_roundg 0
      case measure => omega
      case rel =>
        have i1 : InB W2.heap.size z1.heap.size s1 := ho1.inB
        have i2 : InB z1.heap.size z2.heap.size s2 := ho2.inB
        have i3 : InB z2.heap.size z3.heap.size s3 := ho3.inB
        have i5 : InB z4.heap.size z5.heap.size s5 := ho5.inB
        have so : ∀ cs, SideOwn (z5.setRow (w.heap.size + 2) cs) w.heap.size ⟨yl, ym, yt, yd, yh, yg, yu, yo⟩ ⟨s1, s2, s3, s4, s5⟩ := fun cs => ⟨ha.y.life, ha.y.mana, ha.y.most, ((ho1.old c2).setRow _ _ lt2).lower hbr0, ((ho2.old c3).setRow _ _ (by omega)).lower (by omega), ((ho3.old c4).setRow _ _ (by omega)).lower (by omega), ((ho4.old c5).setRow _ _ (by omega)).lower (by omega), (ho5.setRow _ _ (by omega)).lower (by omega)⟩
        refine ⟨2, hx, ⟨s1, s2, s3, s4, s5⟩, rfl, rfl, hO.setRow _, hA.setRow_other _ _ (by omega), ⟨cs3, hC.setRow_other _ _ (by omega), hcs⟩, below_setRow hbw5 (by omega) _, ho0.put hO (by decide) (by decide) _, n1, n2, by omega, by omega, by simp [World.setRow]; omega, hin, fun h => by omega, fun _ => ⟨hk1.put hO (by decide) (by decide) _, hsep⟩, fun h => by omega, fun _ => ⟨so _, ⟨z1.heap.size, z2.heap.size, z3.heap.size, by omega, by omega, by omega, by simp [World.setRow]; omega, i1.mono (by omega) (Nat.le_refl _), i2, i3, i5.mono (by omega) (by simp [World.setRow])⟩⟩⟩
    · simp only [idx]
      obtain ⟨so1, sep1⟩ := hk1 (by omega)
      obtain ⟨so2, sep2⟩ := hk2 (Nat.le_refl _)
      go_wp2_with (first | refine wpList_load_blk rfl 50 stateT (.tmp 3) rfl rfl hO rfl ?_ | refine wpList_store_blk rfl 50 stateT (.tmp 2) _ rfl rfl rfl hC rfl hcs rfl ?_)
      refine post_blk rfl stateT rfl (hC.setRow _) rfl rfl ?_
      refine ⟨⟨s0, hx, hy⟩, rfl, ?_, ?_, below_setRow hbr (by omega) _⟩
      · exact (show StateOwn wr w.heap.size ⟨turn, mover, phase, struck, result, attack, next, ⟨xl, xm, xt, xd, xh, xg, xu, xo⟩, ⟨yl, ym, yt, yd, yh, yg, yu, yo⟩⟩ ⟨s0, hx, hy⟩ from ⟨ha.turn, ha.mover, ha.phase, ha.result, ho0, ha.next, so1, so2⟩).put hC (by decide) (by decide) _
      · exact ⟨n1, n2, hn0, hn1, by simpa [World.setRow] using hn2, hin, sep1, by simpa [World.setRow] using sep2⟩
end Go.Proofs.Ytiglljegpdlnmaa

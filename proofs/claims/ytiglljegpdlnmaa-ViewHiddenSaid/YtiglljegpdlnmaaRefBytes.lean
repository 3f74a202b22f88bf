/- A view's bytes, as the document makes them. -/
import Derived.Test.YtiglljegpdlnmaaRefNum
import Derived.Test.YtiglljegpdlnmaaLess
namespace Go.Proofs.Ytiglljegpdlnmaa
open Go.RowKit
set_option linter.unusedSimpArgs false

theorem tr1_len (b : Bool) : (tr1 b).length = 1 := rfl
theorem flat25 (m : List ThingL) : (m.flatMap thingB).length = m.length * 25 := by
  induction m with
  | nil => rfl
  | cons y m ih => rw [List.flatMap_cons, List.length_append, ih, thingB_length, List.length_cons]; omega
def RBRel (w : World) (p : ViewP) (cs : Array Value) (f : Nat) (b i : Value) (w' : World) : Prop :=
  ∃ k : Nat, k + f = 2 ∧ i = idx k ∧ Acc w' w b (headB p ++ sidesB p k) ∧ Blk w' w.heap.size cs 41
def RURel (w0 : World) (bs : List UInt8) (l : List ThingL) (g : Nat) (cs ds : Array Value) (f : Nat) (b i : Value) (w' : World) : Prop :=
  ∃ k : Nat, k + f = l.length ∧ i = .int .i64 (k : Int) ∧ Acc w' w0 b (bs ++ (l.take k).flatMap thingB) ∧ Blk w' g cs 38 ∧ Blk w' w0.heap.size ds 41
set_option maxRecDepth 100000 in
set_option maxHeartbeats 4000000 in
theorem rbytes_any (p : ViewP) (h : ViewH) (w : World) (ha : ViewAt w p h) (hsz : (viewB p).length ≤ 1000000000000) :
    Calls Try.prog 17 #[viewVal p h] w fun e w' => ∃ v, e = .returned v ∧ Acc w' w v (viewB p) := by
  obtain ⟨turn, mover, phase, struck, result, attack, next, ⟨xl, xm, xt, xds, xhs, xd, xh, xg, xu, xo⟩, ⟨yl, ym, yt, yds, yhs, yd, yh, yg, yu, yo⟩⟩ := p
  obtain ⟨⟨aa, an, ac⟩, ⟨⟨xda, xdn, xdc⟩, ⟨xha, xhn, xhc⟩, ⟨xga, xgn, xgc⟩, ⟨xua, xun, xuc⟩, ⟨xoa, xon, xoc⟩⟩, ⟨⟨yda, ydn, ydc⟩, ⟨yha, yhn, yhc⟩, ⟨yga, ygn, ygc⟩, ⟨yua, yun, yuc⟩, ⟨yoa, yon, yoc⟩⟩⟩ := h
  have hnum : 209 + 8 * attack.length + (8 * xd.length + 8 * xh.length + 8 * xg.length + 25 * xu.length + 8 * xo.length) + (8 * yd.length + 8 * yh.length + 8 * yg.length + 25 * yu.length + 8 * yo.length) ≤ 1000000000000 := by
    simp only [viewB, headB, sideB, List.length_append, be8_length, ints_len, things_len, tr1_len] at hsz
    omega
  clear hsz
  have p8 : wf8 phase := ha.phase
  have r8 : wf8 result := ha.result
  have q1 : IntKind.i64.wrap phase = phase := IntWalk.i64_in _ (by simp only [wf8, Lit.wf, IntKind.min, IntKind.max, IntKind.signed, IntKind.bits] at p8; simp at p8; omega)
  have q2 : IntKind.i64.wrap result = result := IntWalk.i64_in _ (by simp only [wf8, Lit.wf, IntKind.min, IntKind.max, IntKind.signed, IntKind.bits] at r8; simp at r8; omega)
  clear p8 r8
  unfold viewVal
  dsimp only
  go_enter Try.func17, Try.ntmps17
  go_wp2_with fail
  have hV0 := Blk.new w #[.int .i64 turn, .int .i64 mover, .int .i8 phase, .bool struck, .int .i8 result, .slice aa an ac, .int .i64 next, .int .i64 xl, .int .i64 xm, .int .i64 xt, .int .i64 xds, .int .i64 xhs, .slice xda xdn xdc, .slice xha xhn xhc, .slice xga xgn xgc, .slice xua xun xuc, .slice xoa xon xoc, .int .i64 yl, .int .i64 ym, .int .i64 yt, .int .i64 yds, .int .i64 yhs, .slice yda ydn ydc, .slice yha yhn yhc, .slice yga ygn ygc, .slice yua yun yuc, .slice yoa yon yoc] 41
  have hc0 : Acc (w.alloc (.cells #[.int .i64 turn, .int .i64 mover, .int .i8 phase, .bool struck, .int .i8 result, .slice aa an ac, .int .i64 next, .int .i64 xl, .int .i64 xm, .int .i64 xt, .int .i64 xds, .int .i64 xhs, .slice xda xdn xdc, .slice xha xhn xhc, .slice xga xgn xgc, .slice xua xun xuc, .slice xoa xon xoc, .int .i64 yl, .int .i64 ym, .int .i64 yt, .int .i64 yds, .int .i64 yhs, .slice yda ydn ydc, .slice yha yhn yhc, .slice yga ygn ygc, .slice yua yun yuc, .slice yoa yon yoc] 41)) w (.slice none 0 0) [] := ⟨none, 0, 0, rfl, Own.nil _ _ _ _, rfl, by (try unfold Kept); repeat (first | assumption | exact Below.refl _ _ | exact below_undrew (Below.refl _ _) | exact Below.mono (by assumption) (by first | (simp; done) | (simp; omega) | omega) | refine below_setRow ?_ (by first | (simp; done) | (simp; omega) | omega) _ | refine Below.setCell ?_ (by first | (simp; done) | (simp; omega) | omega) _ | refine Below.alloc ?_ (by first | (simp; done) | (simp; omega) | omega) _ | refine below_drewN ?_ _ | refine Below.drew ?_ | refine below_undrew ?_ | refine below_step ?_ (by assumption))⟩
  have r0 := hV0.rule
  clear r0
  refine (rnum_any _ _ turn w _ hc0 (by simp)).mono ?_
  rintro e w1 ⟨v1, rfl, hc1, hk1⟩
  have hV1 := hV0.keepNot hk1 (by decide)
  have r := hV1.rule
  clear hk1
  go_wp2_with fail
  refine (rnum_any _ _ mover w _ hc1 (by simp only [List.length_append, List.length_nil, be8_length, tr1_len, ints_len]; omega)).mono ?_
  rintro e w2 ⟨v2, rfl, hc2, hk2⟩
  have hV2 := hV1.keepNot hk2 (by decide)
  have r := hV2.rule
  clear hk2
  go_wp2_with fail
  refine (rnum_any _ _ phase w _ hc2 (by simp only [List.length_append, List.length_nil, be8_length, tr1_len, ints_len]; omega)).mono ?_
  rintro e w3 ⟨v3, rfl, hc3, hk3⟩
  have hV3 := hV2.keepNot hk3 (by decide)
  have r := hV3.rule
  clear hk3
  go_wp2_with fail
  refine (rtruth_any _ _ struck w _ hc3 (by simp only [List.length_append, List.length_nil, be8_length, tr1_len, ints_len]; omega)).mono ?_
  rintro e w4 ⟨v4, rfl, hc4, hk4⟩
  have hV4 := hV3.keepNot hk4 (by decide)
  have r := hV4.rule
  clear hk4
  go_wp2_with fail
  refine (rnum_any _ _ result w _ hc4 (by simp only [List.length_append, List.length_nil, be8_length, tr1_len, ints_len]; omega)).mono ?_
  rintro e w5 ⟨v5, rfl, hc5, hk5⟩
  have hV5 := hV4.keepNot hk5 (by decide)
  have r := hV5.rule
  clear hk5
  go_wp2_with fail
  refine (rlist_any _ _ aa an ac attack w _ hc5 ha.attack (by simp only [List.length_append, List.length_nil, be8_length, tr1_len, ints_len]; omega)).mono ?_
  rintro e w6 ⟨v6, rfl, hc6, hk6⟩
  have hV6 := hV5.keepNot hk6 (by decide)
  have r := hV6.rule
  clear hk6
  go_wp2_with fail
  refine (rnum_any _ _ next w _ hc6 (by simp only [List.length_append, List.length_nil, be8_length, tr1_len, ints_len]; omega)).mono ?_
  rintro e w7 ⟨v7, rfl, hc7, hk7⟩
  have hV7 := hV6.keepNot hk7 (by decide)
  have r := hV7.rule
  clear hk7
  go_wp2_with fail
  go_loopg [3, 4] 2 (RBRel w ⟨turn, mover, phase, struck, result, attack, next, ⟨xl, xm, xt, xds, xhs, xd, xh, xg, xu, xo⟩, ⟨yl, ym, yt, yds, yhs, yd, yh, yg, yu, yo⟩⟩ _)
  case atStart => exact ⟨0, rfl, rfl, by simpa [headB, sidesB] using hc7, hV7⟩
  case round =>
    obtain ⟨k, hk, rfl, hac, hV⟩ := hrel
    have HH := Lib.hid (show (headB ⟨turn, mover, phase, struck, result, attack, next, ⟨xl, xm, xt, xds, xhs, xd, xh, xg, xu, xo⟩, ⟨yl, ym, yt, yds, yhs, yd, yh, yg, yu, yo⟩⟩).length = 49 + 8 * attack.length by simp only [headB, List.length_append, be8_length, ints_len, tr1_len]; omega)
    rcases (show k = 0 ∨ k = 1 ∨ k = 2 by omega) with rfl | rfl | rfl
    · simp only [idx]
      obtain ⟨wo, rfl⟩ : ∃ wo : World, wo = wr := ⟨_, rfl⟩
      go_upto_region 13 with (first | refine wpList_load_part rfl 38 sideVT (.tmp 43) rfl rfl hV rfl rfl ?_ | refine wpList_store_blk rfl 38 sideVT (.tmp 5) _ rfl rfl rfl (Blk.new _ _ _) rfl rfl rfl ?_)
      (try simp only [Act.put])
      refine wp_forget (fun W0 => Blk W0 wo.heap.size #[.int .i64 xl, .int .i64 xm, .int .i64 xt, .int .i64 xds, .int .i64 xhs, .slice xda xdn xdc, .slice xha xhn xhc, .slice xga xgn xgc, .slice xua xun xuc, .slice xoa xon xoc] 38 ∧ Blk W0 w.heap.size _ _ ∧ Acc W0 w u3 _) ⟨(Blk.new _ _ _).setRow _, hV.old (by (try unfold Kept); repeat (first | assumption | exact Below.refl _ _ | exact below_undrew (Below.refl _ _) | exact Below.mono (by assumption) (by first | (simp; done) | (simp; omega) | omega) | refine below_setRow ?_ (by first | (simp; done) | (simp; omega) | omega) _ | refine Below.setCell ?_ (by first | (simp; done) | (simp; omega) | omega) _ | refine Below.alloc ?_ (by first | (simp; done) | (simp; omega) | omega) _ | refine below_drewN ?_ _ | refine Below.drew ?_ | refine below_undrew ?_ | refine below_step ?_ (by assumption))), hac.old (by (try unfold Kept); repeat (first | assumption | exact Below.refl _ _ | exact below_undrew (Below.refl _ _) | exact Below.mono (by assumption) (by first | (simp; done) | (simp; omega) | omega) | refine below_setRow ?_ (by first | (simp; done) | (simp; omega) | omega) _ | refine Below.setCell ?_ (by first | (simp; done) | (simp; omega) | omega) _ | refine Below.alloc ?_ (by first | (simp; done) | (simp; omega) | omega) _ | refine below_drewN ?_ _ | refine Below.drew ?_ | refine below_undrew ?_ | refine below_step ?_ (by assumption)))⟩ ?_
      rintro W0 ⟨hE0, hV0, hc0⟩
      have r := hE0.rule
      have hlx : (headB ⟨turn, mover, phase, struck, result, attack, next, ⟨xl, xm, xt, xds, xhs, xd, xh, xg, xu, xo⟩, ⟨yl, ym, yt, yds, yhs, yd, yh, yg, yu, yo⟩⟩ ++ sidesB ⟨turn, mover, phase, struck, result, attack, next, ⟨xl, xm, xt, xds, xhs, xd, xh, xg, xu, xo⟩, ⟨yl, ym, yt, yds, yhs, yd, yh, yg, yu, yo⟩⟩ 0).length = 49 + 8 * attack.length := by
        rw [List.length_append, HH.out]
        simp only [sidesB, List.length_nil]; omega
      have HLX := Lib.hid hlx
      clear hlx hac hV
      go_wp2_with fail
      refine (rnum_any _ _ xl w _ hc0 (by rw [HLX.out]; omega)).mono ?_
      rintro e w1 ⟨v1, rfl, hc1, hk1⟩
      have hE1 := hE0.keepNot hk1 (by decide)
      have hV1 := hV0.keepNot hk1 (by decide)
      have r := hE1.rule
      clear hk1
      go_wp2_with fail
      refine (rnum_any _ _ xm w _ hc1 (by have := HLX.out; simp only [List.length_append, be8_length, ints_len, things_len] at this ⊢; omega)).mono ?_
      rintro e w2 ⟨v2, rfl, hc2, hk2⟩
      have hE2 := hE1.keepNot hk2 (by decide)
      have hV2 := hV1.keepNot hk2 (by decide)
      have r := hE2.rule
      clear hk2
      go_wp2_with fail
      refine (rnum_any _ _ xt w _ hc2 (by have := HLX.out; simp only [List.length_append, be8_length, ints_len, things_len] at this ⊢; omega)).mono ?_
      rintro e w3 ⟨v3, rfl, hc3, hk3⟩
      have hE3 := hE2.keepNot hk3 (by decide)
      have hV3 := hV2.keepNot hk3 (by decide)
      have r := hE3.rule
      clear hk3
      go_wp2_with fail
      refine (rnum_any _ _ xds w _ hc3 (by have := HLX.out; simp only [List.length_append, be8_length, ints_len, things_len] at this ⊢; omega)).mono ?_
      rintro e w4 ⟨v4, rfl, hc4, hk4⟩
      have hE4 := hE3.keepNot hk4 (by decide)
      have hV4 := hV3.keepNot hk4 (by decide)
      have r := hE4.rule
      clear hk4
      go_wp2_with fail
      refine (rnum_any _ _ xhs w _ hc4 (by have := HLX.out; simp only [List.length_append, be8_length, ints_len, things_len] at this ⊢; omega)).mono ?_
      rintro e w5 ⟨v5, rfl, hc5, hk5⟩
      have hE5 := hE4.keepNot hk5 (by decide)
      have hV5 := hV4.keepNot hk5 (by decide)
      have r := hE5.rule
      clear hk5
      go_wp2_with fail
      refine (rlist_any _ _ xda xdn xdc xd w _ hc5 ha.x.deck (by have := HLX.out; simp only [List.length_append, be8_length, ints_len, things_len] at this ⊢; omega)).mono ?_
      rintro e w6 ⟨v6, rfl, hc6, hk6⟩
      have hE6 := hE5.keepNot hk6 (by decide)
      have hV6 := hV5.keepNot hk6 (by decide)
      have r := hE6.rule
      clear hk6
      go_wp2_with fail
      refine (rlist_any _ _ xha xhn xhc xh w _ hc6 ha.x.hand (by have := HLX.out; simp only [List.length_append, be8_length, ints_len, things_len] at this ⊢; omega)).mono ?_
      rintro e w7 ⟨v7, rfl, hc7, hk7⟩
      have hE7 := hE6.keepNot hk7 (by decide)
      have hV7 := hV6.keepNot hk7 (by decide)
      have r := hE7.rule
      clear hk7
      go_wp2_with fail
      refine (rlist_any _ _ xga xgn xgc xg w _ hc7 ha.x.grave (by have := HLX.out; simp only [List.length_append, be8_length, ints_len, things_len] at this ⊢; omega)).mono ?_
      rintro e w8 ⟨v8, rfl, hc8, hk8⟩
      have hE8 := hE7.keepNot hk8 (by decide)
      have hV8 := hV7.keepNot hk8 (by decide)
      have r := hE8.rule
      clear hk8
      go_wp2_with fail
      have hun : Things w ⟨xua, xun, xuc⟩ xu := ha.x.units
      obtain rfl : xu.length = xun := hun.2.1
      refine (rnum_any _ _ (xu.length : Int) w _ hc8 (by have := HLX.out; simp only [List.length_append, be8_length, ints_len, things_len] at this ⊢; omega)).mono ?_
      rintro e w9 ⟨v9, rfl, hc9, hk9⟩
      have hE9 := hE8.keepNot hk9 (by decide)
      have hV9 := hV8.keepNot hk9 (by decide)
      have r := hE9.rule
      clear hk9
      go_wp2_with fail
      obtain ⟨gk_1, hgk1⟩ : ∃ g : Nat, g = gk := ⟨_, rfl⟩
      have HG := Lib.hid hgk1
      clear hgk1
      go_loopg [3, 6] xu.length (RURel w _ xu wo.heap.size _ _)
      case atStart => exact ⟨0, by omega, rfl, by simpa using hc9, hE9, hV9⟩
      case round =>
        obtain ⟨i, hi, rfl, hci, hEi, hVi⟩ := hrel
        have r := hEi.rule
        by_cases hin : i < xu.length
        · have u0 : decide ((i : Int) < (xu.length : Int)) = true := by simp; omega
          obtain ⟨b, o, rfl, hbl2, hc2⟩ := ThingRow.elem hun i hin
          have HT2 := Lib.hid (List.take_succ_eq_append_getElem hin)
          have hlt3 : (xu.take i).length = i := by rw [List.length_take]; omega
          have HT3 := Lib.hid hlt3
          clear hlt3
          generalize xu[i] = y at *
          have hcw : ∀ W bs v, Acc W w v bs → ∀ m (hm : m < y.cells.length), W.cell? ⟨b, o + i * 4 + m, none⟩ = some y.cells[m] := fun W bs v ⟨_, _, _, _, _, _, hbl⟩ m hm => by rw [hbl.cell (show b < w.heap.size from hbl2)]; exact hc2 m hm
          have HC := Lib.hid hcw
          clear hc2 hcw
          obtain ⟨id, card, harm, tired⟩ := y
          have hb25 : ((xu.take i).flatMap thingB).length = i * 25 := by rw [flat25, HT3.out]
          have HB25 := Lib.hid hb25
          clear hb25
          have d0 : wr.cell? ⟨b, o + i * 4, none⟩ = some (.int .i64 id) := HC.out _ _ _ hci 0 (by simp [ThingL.cells])
          go_wp2_with fail
          refine (rnum_any _ _ id w _ hci (by have := HLX.out; have h25 := HB25.out; simp only [List.length_append, be8_length, ints_len, things_len] at this h25 ⊢; omega)).mono ?_
          rintro e z1 ⟨y1, rfl, hi1, hk1⟩
          have hF1 := hEi.keepNot hk1 (by decide)
          have hW1 := hVi.keepNot hk1 (by decide)
          have r := hF1.rule
          have d1 : z1.cell? ⟨b, o + i * 4 + 1, none⟩ = some (.int .i64 card) := HC.out _ _ _ hi1 1 (by simp [ThingL.cells])
          clear hk1 d0
          go_wp2_with fail
          refine (rnum_any _ _ card w _ hi1 (by have := HLX.out; have h25 := HB25.out; simp only [List.length_append, be8_length, ints_len, things_len] at this h25 ⊢; omega)).mono ?_
          rintro e z2 ⟨y2, rfl, hi2, hk2⟩
          have hF2 := hF1.keepNot hk2 (by decide)
          have hW2 := hW1.keepNot hk2 (by decide)
          have r := hF2.rule
          have d2 : z2.cell? ⟨b, o + i * 4 + 2, none⟩ = some (.int .i64 harm) := HC.out _ _ _ hi2 2 (by simp [ThingL.cells])
          clear hk2 d1
          go_wp2_with fail
          refine (rnum_any _ _ harm w _ hi2 (by have := HLX.out; have h25 := HB25.out; simp only [List.length_append, be8_length, ints_len, things_len] at this h25 ⊢; omega)).mono ?_
          rintro e z3 ⟨y3, rfl, hi3, hk3⟩
          have hF3 := hF2.keepNot hk3 (by decide)
          have hW3 := hW2.keepNot hk3 (by decide)
          have r := hF3.rule
          have d3 : z3.cell? ⟨b, o + i * 4 + 3, none⟩ = some (.bool tired) := HC.out _ _ _ hi3 3 (by simp [ThingL.cells])
          clear hk3 d2
          go_wp2_with fail
          refine (rtruth_any _ _ tired w _ hi3 (by have := HLX.out; have h25 := HB25.out; simp only [List.length_append, be8_length, ints_len, things_len] at this h25 ⊢; omega)).mono ?_
          rintro e z4 ⟨y4, rfl, hi4, hk4⟩
          have hF4 := hF3.keepNot hk4 (by decide)
          have hW4 := hW3.keepNot hk4 (by decide)
          clear hk4 d3
          go_wp2_with fail
          go_roundg (gk - 1)
          case measure => omega
          case rel => exact ⟨i + 1, by omega, by go_num, by rw [HT2.out, List.flatMap_append]; simpa [thingB] using hi4, hF4, hW4⟩
        · have u0 : decide ((i : Int) < (xu.length : Int)) = false := by simp; omega
          have e : xu.take i = xu := List.take_of_length_le (by omega)
          rw [e] at hci
          go_wp2_with fail
          refine (rlist_any _ _ xoa xon xoc xo w _ hci ha.x.told (by have := HLX.out; have h25 := flat25 xu; simp only [List.length_append, be8_length, ints_len, things_len] at this h25 ⊢; omega)).mono ?_
          rintro e z5 ⟨y5, rfl, hi5, hk5⟩
          have hW5 := hVi.keepNot hk5 (by decide)
          clear hk5
          go_wp2_with fail
          have hg1 := HG.out
          go_roundg (gk_1 - 1)
          case measure => omega
          case rel => exact ⟨1, by omega, rfl, by simpa [sidesB, sideB, encU] using hi5, hW5⟩
    · simp only [idx]
      obtain ⟨wo, rfl⟩ : ∃ wo : World, wo = wr := ⟨_, rfl⟩
      go_upto_region 13 with (first | refine wpList_load_part rfl 38 sideVT (.tmp 43) rfl rfl hV rfl rfl ?_ | refine wpList_store_blk rfl 38 sideVT (.tmp 5) _ rfl rfl rfl (Blk.new _ _ _) rfl rfl rfl ?_)
      (try simp only [Act.put])
      refine wp_forget (fun W0 => Blk W0 wo.heap.size #[.int .i64 yl, .int .i64 ym, .int .i64 yt, .int .i64 yds, .int .i64 yhs, .slice yda ydn ydc, .slice yha yhn yhc, .slice yga ygn ygc, .slice yua yun yuc, .slice yoa yon yoc] 38 ∧ Blk W0 w.heap.size _ _ ∧ Acc W0 w u3 _) ⟨(Blk.new _ _ _).setRow _, hV.old (by (try unfold Kept); repeat (first | assumption | exact Below.refl _ _ | exact below_undrew (Below.refl _ _) | exact Below.mono (by assumption) (by first | (simp; done) | (simp; omega) | omega) | refine below_setRow ?_ (by first | (simp; done) | (simp; omega) | omega) _ | refine Below.setCell ?_ (by first | (simp; done) | (simp; omega) | omega) _ | refine Below.alloc ?_ (by first | (simp; done) | (simp; omega) | omega) _ | refine below_drewN ?_ _ | refine Below.drew ?_ | refine below_undrew ?_ | refine below_step ?_ (by assumption))), hac.old (by (try unfold Kept); repeat (first | assumption | exact Below.refl _ _ | exact below_undrew (Below.refl _ _) | exact Below.mono (by assumption) (by first | (simp; done) | (simp; omega) | omega) | refine below_setRow ?_ (by first | (simp; done) | (simp; omega) | omega) _ | refine Below.setCell ?_ (by first | (simp; done) | (simp; omega) | omega) _ | refine Below.alloc ?_ (by first | (simp; done) | (simp; omega) | omega) _ | refine below_drewN ?_ _ | refine Below.drew ?_ | refine below_undrew ?_ | refine below_step ?_ (by assumption)))⟩ ?_
      rintro W0 ⟨hE0, hV0, hc0⟩
      have r := hE0.rule
      have hlx : (headB ⟨turn, mover, phase, struck, result, attack, next, ⟨xl, xm, xt, xds, xhs, xd, xh, xg, xu, xo⟩, ⟨yl, ym, yt, yds, yhs, yd, yh, yg, yu, yo⟩⟩ ++ sidesB ⟨turn, mover, phase, struck, result, attack, next, ⟨xl, xm, xt, xds, xhs, xd, xh, xg, xu, xo⟩, ⟨yl, ym, yt, yds, yhs, yd, yh, yg, yu, yo⟩⟩ 1).length = 49 + 8 * attack.length + (80 + 8 * xd.length + 8 * xh.length + 8 * xg.length + 25 * xu.length + 8 * xo.length) := by
        rw [List.length_append, HH.out]
        simp only [sidesB, sideB, List.length_append, be8_length, ints_len, things_len]; omega
      have HLX := Lib.hid hlx
      clear hlx hac hV
      go_wp2_with fail
      refine (rnum_any _ _ yl w _ hc0 (by rw [HLX.out]; omega)).mono ?_
      rintro e w1 ⟨v1, rfl, hc1, hk1⟩
      have hE1 := hE0.keepNot hk1 (by decide)
      have hV1 := hV0.keepNot hk1 (by decide)
      have r := hE1.rule
      clear hk1
      go_wp2_with fail
      refine (rnum_any _ _ ym w _ hc1 (by have := HLX.out; simp only [List.length_append, be8_length, ints_len, things_len] at this ⊢; omega)).mono ?_
      rintro e w2 ⟨v2, rfl, hc2, hk2⟩
      have hE2 := hE1.keepNot hk2 (by decide)
      have hV2 := hV1.keepNot hk2 (by decide)
      have r := hE2.rule
      clear hk2
      go_wp2_with fail
      refine (rnum_any _ _ yt w _ hc2 (by have := HLX.out; simp only [List.length_append, be8_length, ints_len, things_len] at this ⊢; omega)).mono ?_
      rintro e w3 ⟨v3, rfl, hc3, hk3⟩
      have hE3 := hE2.keepNot hk3 (by decide)
      have hV3 := hV2.keepNot hk3 (by decide)
      have r := hE3.rule
      clear hk3
      go_wp2_with fail
      refine (rnum_any _ _ yds w _ hc3 (by have := HLX.out; simp only [List.length_append, be8_length, ints_len, things_len] at this ⊢; omega)).mono ?_
      rintro e w4 ⟨v4, rfl, hc4, hk4⟩
      have hE4 := hE3.keepNot hk4 (by decide)
      have hV4 := hV3.keepNot hk4 (by decide)
      have r := hE4.rule
      clear hk4
      go_wp2_with fail
      refine (rnum_any _ _ yhs w _ hc4 (by have := HLX.out; simp only [List.length_append, be8_length, ints_len, things_len] at this ⊢; omega)).mono ?_
      rintro e w5 ⟨v5, rfl, hc5, hk5⟩
      have hE5 := hE4.keepNot hk5 (by decide)
      have hV5 := hV4.keepNot hk5 (by decide)
      have r := hE5.rule
      clear hk5
      go_wp2_with fail
      refine (rlist_any _ _ yda ydn ydc yd w _ hc5 ha.y.deck (by have := HLX.out; simp only [List.length_append, be8_length, ints_len, things_len] at this ⊢; omega)).mono ?_
      rintro e w6 ⟨v6, rfl, hc6, hk6⟩
      have hE6 := hE5.keepNot hk6 (by decide)
      have hV6 := hV5.keepNot hk6 (by decide)
      have r := hE6.rule
      clear hk6
      go_wp2_with fail
      refine (rlist_any _ _ yha yhn yhc yh w _ hc6 ha.y.hand (by have := HLX.out; simp only [List.length_append, be8_length, ints_len, things_len] at this ⊢; omega)).mono ?_
      rintro e w7 ⟨v7, rfl, hc7, hk7⟩
      have hE7 := hE6.keepNot hk7 (by decide)
      have hV7 := hV6.keepNot hk7 (by decide)
      have r := hE7.rule
      clear hk7
      go_wp2_with fail
      refine (rlist_any _ _ yga ygn ygc yg w _ hc7 ha.y.grave (by have := HLX.out; simp only [List.length_append, be8_length, ints_len, things_len] at this ⊢; omega)).mono ?_
      rintro e w8 ⟨v8, rfl, hc8, hk8⟩
      have hE8 := hE7.keepNot hk8 (by decide)
      have hV8 := hV7.keepNot hk8 (by decide)
      have r := hE8.rule
      clear hk8
      go_wp2_with fail
      have hun : Things w ⟨yua, yun, yuc⟩ yu := ha.y.units
      obtain rfl : yu.length = yun := hun.2.1
      refine (rnum_any _ _ (yu.length : Int) w _ hc8 (by have := HLX.out; simp only [List.length_append, be8_length, ints_len, things_len] at this ⊢; omega)).mono ?_
      rintro e w9 ⟨v9, rfl, hc9, hk9⟩
      have hE9 := hE8.keepNot hk9 (by decide)
      have hV9 := hV8.keepNot hk9 (by decide)
      have r := hE9.rule
      clear hk9
      go_wp2_with fail
      obtain ⟨gk_1, hgk1⟩ : ∃ g : Nat, g = gk := ⟨_, rfl⟩
      have HG := Lib.hid hgk1
      clear hgk1
      go_loopg [3, 6] yu.length (RURel w _ yu wo.heap.size _ _)
      case atStart => exact ⟨0, by omega, rfl, by simpa using hc9, hE9, hV9⟩
      case round =>
        obtain ⟨i, hi, rfl, hci, hEi, hVi⟩ := hrel
        have r := hEi.rule
        by_cases hin : i < yu.length
        · have u0 : decide ((i : Int) < (yu.length : Int)) = true := by simp; omega
          obtain ⟨b, o, rfl, hbl2, hc2⟩ := ThingRow.elem hun i hin
          have HT2 := Lib.hid (List.take_succ_eq_append_getElem hin)
          have hlt3 : (yu.take i).length = i := by rw [List.length_take]; omega
          have HT3 := Lib.hid hlt3
          clear hlt3
          generalize yu[i] = y at *
          have hcw : ∀ W bs v, Acc W w v bs → ∀ m (hm : m < y.cells.length), W.cell? ⟨b, o + i * 4 + m, none⟩ = some y.cells[m] := fun W bs v ⟨_, _, _, _, _, _, hbl⟩ m hm => by rw [hbl.cell (show b < w.heap.size from hbl2)]; exact hc2 m hm
          have HC := Lib.hid hcw
          clear hc2 hcw
          obtain ⟨id, card, harm, tired⟩ := y
          have hb25 : ((yu.take i).flatMap thingB).length = i * 25 := by rw [flat25, HT3.out]
          have HB25 := Lib.hid hb25
          clear hb25
          have d0 : wr.cell? ⟨b, o + i * 4, none⟩ = some (.int .i64 id) := HC.out _ _ _ hci 0 (by simp [ThingL.cells])
          go_wp2_with fail
          refine (rnum_any _ _ id w _ hci (by have := HLX.out; have h25 := HB25.out; simp only [List.length_append, be8_length, ints_len, things_len] at this h25 ⊢; omega)).mono ?_
          rintro e z1 ⟨y1, rfl, hi1, hk1⟩
          have hF1 := hEi.keepNot hk1 (by decide)
          have hW1 := hVi.keepNot hk1 (by decide)
          have r := hF1.rule
          have d1 : z1.cell? ⟨b, o + i * 4 + 1, none⟩ = some (.int .i64 card) := HC.out _ _ _ hi1 1 (by simp [ThingL.cells])
          clear hk1 d0
          go_wp2_with fail
          refine (rnum_any _ _ card w _ hi1 (by have := HLX.out; have h25 := HB25.out; simp only [List.length_append, be8_length, ints_len, things_len] at this h25 ⊢; omega)).mono ?_
          rintro e z2 ⟨y2, rfl, hi2, hk2⟩
          have hF2 := hF1.keepNot hk2 (by decide)
          have hW2 := hW1.keepNot hk2 (by decide)
          have r := hF2.rule
          have d2 : z2.cell? ⟨b, o + i * 4 + 2, none⟩ = some (.int .i64 harm) := HC.out _ _ _ hi2 2 (by simp [ThingL.cells])
          clear hk2 d1
          go_wp2_with fail
          refine (rnum_any _ _ harm w _ hi2 (by have := HLX.out; have h25 := HB25.out; simp only [List.length_append, be8_length, ints_len, things_len] at this h25 ⊢; omega)).mono ?_
          rintro e z3 ⟨y3, rfl, hi3, hk3⟩
          have hF3 := hF2.keepNot hk3 (by decide)
          have hW3 := hW2.keepNot hk3 (by decide)
          have r := hF3.rule
          have d3 : z3.cell? ⟨b, o + i * 4 + 3, none⟩ = some (.bool tired) := HC.out _ _ _ hi3 3 (by simp [ThingL.cells])
          clear hk3 d2
          go_wp2_with fail
          refine (rtruth_any _ _ tired w _ hi3 (by have := HLX.out; have h25 := HB25.out; simp only [List.length_append, be8_length, ints_len, things_len] at this h25 ⊢; omega)).mono ?_
          rintro e z4 ⟨y4, rfl, hi4, hk4⟩
          have hF4 := hF3.keepNot hk4 (by decide)
          have hW4 := hW3.keepNot hk4 (by decide)
          clear hk4 d3
          go_wp2_with fail
          go_roundg (gk - 1)
          case measure => omega
          case rel => exact ⟨i + 1, by omega, by go_num, by rw [HT2.out, List.flatMap_append]; simpa [thingB] using hi4, hF4, hW4⟩
        · have u0 : decide ((i : Int) < (yu.length : Int)) = false := by simp; omega
          have e : yu.take i = yu := List.take_of_length_le (by omega)
          rw [e] at hci
          go_wp2_with fail
          refine (rlist_any _ _ yoa yon yoc yo w _ hci ha.y.told (by have := HLX.out; have h25 := flat25 yu; simp only [List.length_append, be8_length, ints_len, things_len] at this h25 ⊢; omega)).mono ?_
          rintro e z5 ⟨y5, rfl, hi5, hk5⟩
          have hW5 := hVi.keepNot hk5 (by decide)
          clear hk5
          go_wp2_with fail
          have hg1 := HG.out
          go_roundg (gk_1 - 1)
          case measure => omega
          case rel => exact ⟨2, by omega, rfl, by simpa [sidesB, sideB, encU] using hi5, hW5⟩
    · simp only [idx]
      go_wp2_with fail
      go_ret
      exact ⟨_, rfl, by simpa [sidesB, viewB] using hac⟩
end Go.Proofs.Ytiglljegpdlnmaa

/- A view's bytes, as the program makes them. -/
import Derived.Test.YtiglljegpdlnmaaPut
import Derived.Test.YtiglljegpdlnmaaOf
namespace Go.Proofs.Ytiglljegpdlnmaa
open Go.RowKit

def sideB (x : SideVP) : List UInt8 := be8 x.life ++ be8 x.mana ++ be8 x.most ++ be8 x.deckSize ++ be8 x.handSize ++ encL x.deck ++ encL x.hand ++ encL x.grave ++ encU x.units ++ encL x.told
def headB (p : ViewP) : List UInt8 := be8 p.turn ++ be8 p.mover ++ be8 p.phase ++ tr1 p.struck ++ be8 p.result ++ encL p.attack ++ be8 p.next
def viewB (p : ViewP) : List UInt8 := headB p ++ sideB p.x ++ sideB p.y
def sideIts (x : SideVP) (h : SideVH) : List Item := [.num x.life, .num x.mana, .num x.most, .num x.deckSize, .num x.handSize, .ints h.deck x.deck, .ints h.hand x.hand, .ints h.grave x.grave, .things h.units x.units, .ints h.told x.told]
def headIts (p : ViewP) (h : ViewH) : List Item := [.num p.turn, .num p.mover, .small p.phase, .truth p.struck, .small p.result, .ints h.attack p.attack, .num p.next]
theorem sideIts_enc (x : SideVP) (h : SideVH) : (sideIts x h).flatMap Item.enc = sideB x := by simp [sideIts, sideB, Item.enc]
theorem headIts_enc (p : ViewP) (h : ViewH) : (headIts p h).flatMap Item.enc = headB p := by simp [headIts, headB, Item.enc]
theorem sideIts_ok {w : World} {x : SideVP} {h : SideVH} (a : SideVAt w x h) : ∀ i ∈ sideIts x h, i.Ok w := by
  intro i hi
  simp only [sideIts, List.mem_cons, List.mem_nil_iff, or_false] at hi
  rcases hi with rfl | rfl | rfl | rfl | rfl | rfl | rfl | rfl | rfl | rfl
  · exact a.life
  · exact a.mana
  · exact a.most
  · exact a.deckSize
  · exact a.handSize
  · exact a.deck
  · exact a.hand
  · exact a.grave
  · exact a.units
  · exact a.told
theorem headIts_ok {w : World} {p : ViewP} {h : ViewH} (a : ViewAt w p h) : ∀ i ∈ headIts p h, i.Ok w := by
  intro i hi
  simp only [headIts, List.mem_cons, List.mem_nil_iff, or_false] at hi
  rcases hi with rfl | rfl | rfl | rfl | rfl | rfl | rfl
  · exact a.turn
  · exact a.mover
  · exact a.phase
  · exact trivial
  · exact a.result
  · exact a.attack
  · exact a.next
theorem sidesVT : AggT Try.prog 39 20 := ⟨⟨_, Try.underlying39, rfl⟩, by kernel_rfl⟩
def sidesB (p : ViewP) : Nat → List UInt8
  | 0 => []
  | 1 => sideB p.x
  | _ => sideB p.x ++ sideB p.y
def BytesRel (w : World) (p : ViewP) (wb : Nat) (f : Nat) (i : Value) (w' : World) : Prop :=
  ∃ k : Nat, k + f = 2 ∧ i = idx k ∧ WriterAt w' w wb (headB p ++ sidesB p k)
set_option maxRecDepth 100000 in
set_option maxHeartbeats 2000000 in
theorem bytes_any (p : ViewP) (h : ViewH) (w : World) (ha : ViewAt w p h) (hsz : (viewB p).length ≤ 1000000000000) :
    Calls Try.prog 16 #[viewVal p h] w fun e w' => ∃ a c, e = .returned (.slice a (viewB p).length c) ∧ Own w' w.heap.size 5 1 a (viewB p).length c ((viewB p).map bv) ∧ Below w.heap.size w w' := by
  have okh := headIts_ok ha
  have okx := sideIts_ok ha.x
  have oky := sideIts_ok ha.y
  have hlen : (headB p).length + (sideB p.x).length + (sideB p.y).length ≤ 1000000000000 := by simpa [viewB, Nat.add_assoc] using hsz
  have e0 := headIts_enc p h
  have e1 := sideIts_enc p.x h.x
  have e2 := sideIts_enc p.y h.y
  have hdef : viewB p = headB p ++ (sideB p.x ++ sideB p.y) := by simp [viewB]
  have HDEF := Lib.hid hdef
  have HE0 := Lib.hid e0
  have HE1 := Lib.hid e1
  have HE2 := Lib.hid e2
  clear e0 e1 e2 hdef
  obtain ⟨turn, mover, phase, struck, result, attack, next, ⟨xl, xm, xt, xds, xhs, xd, xh, xg, xu, xo⟩, ⟨yl, ym, yt, yds, yhs, yd, yh, yg, yu, yo⟩⟩ := p
  obtain ⟨⟨aa, an, ac⟩, ⟨⟨xda, xdn, xdc⟩, ⟨xha, xhn, xhc⟩, ⟨xga, xgn, xgc⟩, ⟨xua, xun, xuc⟩, ⟨xoa, xon, xoc⟩⟩, ⟨⟨yda, ydn, ydc⟩, ⟨yha, yhn, yhc⟩, ⟨yga, ygn, ygc⟩, ⟨yua, yun, yuc⟩, ⟨yoa, yon, yoc⟩⟩⟩ := h
  unfold viewVal
  dsimp only
  go_enter Try.func16, Try.ntmps16
  go_wp2_with fail
  have hw0 : WriterAt ((w.alloc (.cells #[.int .i64 turn, .int .i64 mover, .int .i8 phase, .bool struck, .int .i8 result, .slice aa an ac, .int .i64 next, .int .i64 xl, .int .i64 xm, .int .i64 xt, .int .i64 xds, .int .i64 xhs, .slice xda xdn xdc, .slice xha xhn xhc, .slice xga xgn xgc, .slice xua xun xuc, .slice xoa xon xoc, .int .i64 yl, .int .i64 ym, .int .i64 yt, .int .i64 yds, .int .i64 yhs, .slice yda ydn ydc, .slice yha yhn yhc, .slice yga ygn ygc, .slice yua yun yuc, .slice yoa yon yoc] 41)).alloc (.cells #[.slice none 0 0] 63)) w (w.heap.size + 1) [] :=
    ⟨⟨none, 0, 0, Blk.new2' _ _ _ _, Own.nil _ _ _ _, rfl⟩, by omega, by (try unfold Kept); repeat (first | assumption | exact Below.refl _ _ | exact below_undrew (Below.refl _ _) | exact Below.mono (by assumption) (by first | (simp; done) | (simp; omega) | omega) | refine below_setRow ?_ (by first | (simp; done) | (simp; omega) | omega) _ | refine Below.setCell ?_ (by first | (simp; done) | (simp; omega) | omega) _ | refine Below.alloc ?_ (by first | (simp; done) | (simp; omega) | omega) _ | refine below_drewN ?_ _ | refine Below.drew ?_ | refine below_undrew ?_ | refine below_step ?_ (by assumption))⟩
  refine (put_any (w.heap.size + 1) _ 7 [] (headIts ⟨turn, mover, phase, struck, result, attack, next, ⟨xl, xm, xt, xds, xhs, xd, xh, xg, xu, xo⟩, ⟨yl, ym, yt, yds, yhs, yd, yh, yg, yu, yo⟩⟩ ⟨⟨aa, an, ac⟩, ⟨⟨xda, xdn, xdc⟩, ⟨xha, xhn, xhc⟩, ⟨xga, xgn, xgc⟩, ⟨xua, xun, xuc⟩, ⟨xoa, xon, xoc⟩⟩, ⟨⟨yda, ydn, ydc⟩, ⟨yha, yhn, yhc⟩, ⟨yga, ygn, ygc⟩, ⟨yua, yun, yuc⟩, ⟨yoa, yon, yoc⟩⟩⟩) w _ (hw0.old (by (try unfold Kept); repeat (first | assumption | exact Below.refl _ _ | exact below_undrew (Below.refl _ _) | exact Below.mono (by assumption) (by first | (simp; done) | (simp; omega) | omega) | refine below_setRow ?_ (by first | (simp; done) | (simp; omega) | omega) _ | refine Below.setCell ?_ (by first | (simp; done) | (simp; omega) | omega) _ | refine Below.alloc ?_ (by first | (simp; done) | (simp; omega) | omega) _ | refine below_drewN ?_ _ | refine Below.drew ?_ | refine below_undrew ?_ | refine below_step ?_ (by assumption)))) (Blk.new3'' _ _ _ _ _) rfl okh (by rw [HE0.out]; simp; omega)).mono ?_
  rw [HE0.out]
  rintro e w2 ⟨rfl, hw2, hk2⟩
  have hV2 := ((Blk.new3 _ _ _ _ _).keep2 hk2 (by decide) (by omega))
  go_wp2_with (refine wpList_load_part rfl 39 sidesVT (.tmp 32) rfl rfl hV2 rfl rfl ?_)
  go_loopg [34] 2 (BytesRel w ⟨turn, mover, phase, struck, result, attack, next, ⟨xl, xm, xt, xds, xhs, xd, xh, xg, xu, xo⟩, ⟨yl, ym, yt, yds, yhs, yd, yh, yg, yu, yo⟩⟩ (w.heap.size + 1))
  case atStart => exact ⟨0, rfl, rfl, by simpa [sidesB] using hw2⟩
  case round =>
    obtain ⟨k, hk, rfl, hwr⟩ := hrel
    have hwz := hwr.below.size
    rcases (show k = 0 ∨ k = 1 ∨ k = 2 by omega) with rfl | rfl | rfl
    · simp only [idx]
      have hi0 : ∀ W, (Instr.index 39 (.agg #[.int .i64 xl, .int .i64 xm, .int .i64 xt, .int .i64 xds, .int .i64 xhs, .slice xda xdn xdc, .slice xha xhn xhc, .slice xga xgn xgc, .slice xua xun xuc, .slice xoa xon xoc, .int .i64 yl, .int .i64 ym, .int .i64 yt, .int .i64 yds, .int .i64 yhs, .slice yda ydn ydc, .slice yha yhn yhc, .slice yga ygn ygc, .slice yua yun yuc, .slice yoa yon yoc]) (.int .i64 0)).run Try.prog W = .ok (.agg #[.int .i64 xl, .int .i64 xm, .int .i64 xt, .int .i64 xds, .int .i64 xhs, .slice xda xdn xdc, .slice xha xhn xhc, .slice xga xgn xgc, .slice xua xun xuc, .slice xoa xon xoc]) W := fun _ => by kernel_rfl
      go_upto_region 6 with (refine wpList_store_blk rfl 38 sideVT (.tmp 5) _ rfl rfl rfl (Blk.new _ _ _) rfl rfl rfl ?_)
      (try simp only [Act.put])
      refine wp_forget (fun W0 => Blk W0 wr.heap.size _ _ ∧ WriterAt W0 w (w.heap.size + 1) _) ⟨(Blk.new _ _ _).setRow _, hwr.old (by (try unfold Kept); repeat (first | assumption | exact Below.refl _ _ | exact below_undrew (Below.refl _ _) | exact Below.mono (by assumption) (by first | (simp; done) | (simp; omega) | omega) | refine below_setRow ?_ (by first | (simp; done) | (simp; omega) | omega) _ | refine Below.setCell ?_ (by first | (simp; done) | (simp; omega) | omega) _ | refine Below.alloc ?_ (by first | (simp; done) | (simp; omega) | omega) _ | refine below_drewN ?_ _ | refine Below.drew ?_ | refine below_undrew ?_ | refine below_step ?_ (by assumption)))⟩ ?_
      rintro W2 ⟨hE, hwr2⟩
      have r5 := hE.rule
      go_wp2_with fail
      refine (put_any (w.heap.size + 1) _ 10 _ (sideIts ⟨xl, xm, xt, xds, xhs, xd, xh, xg, xu, xo⟩ ⟨⟨xda, xdn, xdc⟩, ⟨xha, xhn, xhc⟩, ⟨xga, xgn, xgc⟩, ⟨xua, xun, xuc⟩, ⟨xoa, xon, xoc⟩⟩) w _ (hwr2.old (by (try unfold Kept); repeat (first | assumption | exact Below.refl _ _ | exact below_undrew (Below.refl _ _) | exact Below.mono (by assumption) (by first | (simp; done) | (simp; omega) | omega) | refine below_setRow ?_ (by first | (simp; done) | (simp; omega) | omega) _ | refine Below.setCell ?_ (by first | (simp; done) | (simp; omega) | omega) _ | refine Below.alloc ?_ (by first | (simp; done) | (simp; omega) | omega) _ | refine below_drewN ?_ _ | refine Below.drew ?_ | refine below_undrew ?_ | refine below_step ?_ (by assumption)))) (Blk.new _ _ _) rfl okx (by rw [HE1.out]; simp only [List.length_append, sidesB, List.length_nil]; omega)).mono ?_
      rw [HE1.out]
      rintro e w3 ⟨rfl, hw3, -⟩
      go_wp2_with fail
      go_roundg 1
      case measure => omega
      case rel => exact ⟨1, rfl, rfl, by simpa [sidesB] using hw3⟩
    · simp only [idx]
      have hi0 : ∀ W, (Instr.index 39 (.agg #[.int .i64 xl, .int .i64 xm, .int .i64 xt, .int .i64 xds, .int .i64 xhs, .slice xda xdn xdc, .slice xha xhn xhc, .slice xga xgn xgc, .slice xua xun xuc, .slice xoa xon xoc, .int .i64 yl, .int .i64 ym, .int .i64 yt, .int .i64 yds, .int .i64 yhs, .slice yda ydn ydc, .slice yha yhn yhc, .slice yga ygn ygc, .slice yua yun yuc, .slice yoa yon yoc]) (.int .i64 1)).run Try.prog W = .ok (.agg #[.int .i64 yl, .int .i64 ym, .int .i64 yt, .int .i64 yds, .int .i64 yhs, .slice yda ydn ydc, .slice yha yhn yhc, .slice yga ygn ygc, .slice yua yun yuc, .slice yoa yon yoc]) W := fun _ => by kernel_rfl
      go_upto_region 6 with (refine wpList_store_blk rfl 38 sideVT (.tmp 5) _ rfl rfl rfl (Blk.new _ _ _) rfl rfl rfl ?_)
      (try simp only [Act.put])
      refine wp_forget (fun W0 => Blk W0 wr.heap.size _ _ ∧ WriterAt W0 w (w.heap.size + 1) _) ⟨(Blk.new _ _ _).setRow _, hwr.old (by (try unfold Kept); repeat (first | assumption | exact Below.refl _ _ | exact below_undrew (Below.refl _ _) | exact Below.mono (by assumption) (by first | (simp; done) | (simp; omega) | omega) | refine below_setRow ?_ (by first | (simp; done) | (simp; omega) | omega) _ | refine Below.setCell ?_ (by first | (simp; done) | (simp; omega) | omega) _ | refine Below.alloc ?_ (by first | (simp; done) | (simp; omega) | omega) _ | refine below_drewN ?_ _ | refine Below.drew ?_ | refine below_undrew ?_ | refine below_step ?_ (by assumption)))⟩ ?_
      rintro W2 ⟨hE, hwr2⟩
      have r5 := hE.rule
      go_wp2_with fail
      refine (put_any (w.heap.size + 1) _ 10 _ (sideIts ⟨yl, ym, yt, yds, yhs, yd, yh, yg, yu, yo⟩ ⟨⟨yda, ydn, ydc⟩, ⟨yha, yhn, yhc⟩, ⟨yga, ygn, ygc⟩, ⟨yua, yun, yuc⟩, ⟨yoa, yon, yoc⟩⟩) w _ (hwr2.old (by (try unfold Kept); repeat (first | assumption | exact Below.refl _ _ | exact below_undrew (Below.refl _ _) | exact Below.mono (by assumption) (by first | (simp; done) | (simp; omega) | omega) | refine below_setRow ?_ (by first | (simp; done) | (simp; omega) | omega) _ | refine Below.setCell ?_ (by first | (simp; done) | (simp; omega) | omega) _ | refine Below.alloc ?_ (by first | (simp; done) | (simp; omega) | omega) _ | refine below_drewN ?_ _ | refine Below.drew ?_ | refine below_undrew ?_ | refine below_step ?_ (by assumption)))) (Blk.new _ _ _) rfl oky (by rw [HE2.out]; simp only [List.length_append, sidesB]; omega)).mono ?_
      rw [HE2.out]
      rintro e w3 ⟨rfl, hw3, -⟩
      go_wp2_with fail
      go_roundg 0
      case measure => omega
      case rel => exact ⟨2, rfl, rfl, by simpa [sidesB] using hw3⟩
    · simp only [idx]
      obtain ⟨⟨a1, n1, c1, hblk, hown, hln⟩, hlow, hbel⟩ := hwr
      have r1 := hblk.rule
      rw [show headB ⟨turn, mover, phase, struck, result, attack, next, ⟨xl, xm, xt, xds, xhs, xd, xh, xg, xu, xo⟩, ⟨yl, ym, yt, yds, yhs, yd, yh, yg, yu, yo⟩⟩ ++ sidesB ⟨turn, mover, phase, struck, result, attack, next, ⟨xl, xm, xt, xds, xhs, xd, xh, xg, xu, xo⟩, ⟨yl, ym, yt, yds, yhs, yd, yh, yg, yu, yo⟩⟩ 2 = viewB ⟨turn, mover, phase, struck, result, attack, next, ⟨xl, xm, xt, xds, xhs, xd, xh, xg, xu, xo⟩, ⟨yl, ym, yt, yds, yhs, yd, yh, yg, yu, yo⟩⟩ from HDEF.out.symm] at hown hln
      have HLN := Lib.hid hln
      clear hln
      go_wp2_with fail
      go_ret
      exact ⟨a1, c1, by rw [HLN.out]; rfl, by rw [HLN.out]; exact hown, hbel⟩
end Go.Proofs.Ytiglljegpdlnmaa

/- What the document says of ann's token. -/
import Derived.Test.YtlhemmlmhgjodaaTokRCheck
namespace Go.Proofs.Ytlhemmlmhgjodaa
open Go.RowKit

def ann : Tok := ⟨[97, 110, 110], 0, 9⟩
def kk : List UInt8 := [107, 101, 121]
def yk : List UInt8 := [121, 101, 107]
theorem ann_wf : TokWf ann := ⟨by decide, by decide, by decide, by decide, by decide⟩
theorem tok0_wf : TokWf tok0 := ⟨by decide, by decide, by decide, by decide, by decide⟩
theorem ann_may : tokMay ann = true := by decide
theorem tok0_may : tokMay tok0 = false := by decide
theorem yk_other : dgb (hout yk (tokHead ann)) 0 ≠ dgb (hout kk (tokHead ann)) 0 := by decide +kernel
theorem ann_make : tokMake kk ann = (tokB kk ann, 0) := tokMake_may kk ann (by decide) ann_may
theorem ann_check9 : tokCheck kk (tokB kk ann) 9 = (ann, 0) := by rw [tokCheck_make kk ann 9 (by decide) ann_may]; rfl
theorem ann_check10 : tokCheck kk (tokB kk ann) 10 = (tok0, 91) := by rw [tokCheck_make kk ann 10 (by decide) ann_may]; rfl
theorem ann_checky : tokCheck yk (tokB kk ann) 9 = (tok0, 90) := by
  refine tokCheck_bad yk _ 9 (by decide) fun h => ?_
  rw [tokRead_make kk ann ann_may, tokMake_may yk ann (by decide) ann_may] at h
  have h1 := (Prod.mk.inj h).1
  unfold tokB at h1
  have h2 := List.append_cancel_left h1
  have h3 := congrArg (fun l => l.getD 0 0) h2
  exact yk_other (by simpa [dgl] using h3)
def annC : Array Value := tokC (strOf [97, 110, 110]) 0 9
set_option maxHeartbeats 4000000 in
set_option maxRecDepth 100000 in
theorem tok_wakes (w : World) : Calls Try.prog 6 #[] w (BoolP w true) := by
  obtain ⟨H, hH⟩ : ∃ H, H = w.heap.size := ⟨_, rfl⟩
  have HH := Lib.hid hH
  clear hH
  go_enter Try.func6, Try.ntmps6
  go_upto_region 2 with fail
  have hA0 := Blk.new w annC 25
  have hb0 : Below H w (w.alloc (.cells annC 25)) := by rw [HH.out]; exact (Below.refl _ _).alloc (Nat.le_refl _) _
  rw [← HH.out] at hA0 ⊢
  refine wp_forget (fun W0 => Blk W0 H annC 25 ∧ Below H w W0) ⟨hA0, hb0⟩ ?_
  clear hA0 hb0
  rintro w1 ⟨hA, hw⟩
  have hlt := hA.lt
  have kc := fun (w : World) (C : Array Value) (n c : Nat) => Lib.run_convert_bytes_const (P := Try.prog) w 22 5 C n c Try.underlying22 Try.underlying5
  have hn1 := BytesAt.new w1 #[.int .u8 107, .int .u8 101, .int .u8 121] 5 (3, 4) kk rfl
  have hA1 := hA.alloc (.cells #[.int .u8 107, .int .u8 101, .int .u8 121] 5 (3, 4))
  go_wp2_with (refine wpList_load_blk rfl 25 aggTok _ rfl rfl hA1 rfl ?_)
  refine (make_any kk _ 3 3 ann _ hn1 rfl ann_wf).mono ?_
  unfold MakP
  rw [ann_make]
  rintro e w2 ⟨ba, bn, bc, l, er, rfl, hl, hbl, hbr, hb2, hbc⟩
  obtain ⟨rfl, rfl⟩ := Prod.mk.inj hl
  have hA2 := hA1.old hb2
  have hw2 := (hw.alloc (Nat.le_of_lt hlt) (.cells #[.int .u8 107, .int .u8 101, .int .u8 121] 5 (3, 4))).trans (hb2.mono (by simp; omega))
  clear hl hn1 hA hA1 hw hb2 hlt kc
  obtain ⟨B, hB⟩ : ∃ B, B = tokB kk ann := ⟨_, rfl⟩
  have hc9 := ann_check9
  have hc10 := ann_check10
  have hcy := ann_checky
  rw [← hB] at hbl hbr hc9 hc10 hcy
  have HBL := Lib.hid hbl
  have HC9 := Lib.hid hc9
  have HC10 := Lib.hid hc10
  have HCY := Lib.hid hcy
  clear hB hbl hc9 hc10 hcy
  go_upto_region 3 with fail
  refine wp_forget (fun W0 => Blk W0 H annC 25 ∧ Below H w W0 ∧ BytesAt W0 ba B) ⟨hA2, hw2, hbr⟩ ?_
  clear hA2 hw2 hbr
  rintro w3 ⟨hA, hw, hbr⟩
  have hlt := hA.lt
  have kc := fun (w : World) (C : Array Value) (n c : Nat) => Lib.run_convert_bytes_const (P := Try.prog) w 22 5 C n c Try.underlying22 Try.underlying5
  have hn1 := BytesAt.new w3 #[.int .u8 107, .int .u8 101, .int .u8 121] 5 (3, 4) kk rfl
  go_wp2_with fail
  refine (check_any kk B _ 3 3 ba bn bc 9 _ hn1 rfl (hbr.alloc _) HBL.out hbc).mono ?_
  unfold ChkP
  rw [HC9.out]
  rintro e w4 ⟨rfl, hb4⟩
  have hw4 := (hw.alloc (Nat.le_of_lt hlt) (.cells #[.int .u8 107, .int .u8 101, .int .u8 121] 5 (3, 4))).trans (hb4.mono (by simp; omega))
  have hA4 := (hA.alloc (.cells #[.int .u8 107, .int .u8 101, .int .u8 121] 5 (3, 4))).old hb4
  have hbr4 := (hbr.alloc (.cells #[.int .u8 107, .int .u8 101, .int .u8 121] 5 (3, 4))).below hb4
  clear hA hw hbr hn1 hb4 hlt kc
  have hlt := hA4.lt
  go_upto_region 4 with (refine wpList_store_blk rfl 25 aggTok (.tmp 4) _ (cells := annC) rfl rfl rfl (Blk.new _ _ _) rfl rfl rfl ?_)
  obtain ⟨G, hG⟩ : ∃ G, G = w4.heap.size := ⟨_, rfl⟩
  have hG0 := Blk.new w4 (tokC ze 0 0) 25
  have hbb := below_setRow ((Below.refl w4.heap.size w4).alloc (Nat.le_refl _) (.cells (tokC ze 0 0) 25)) (Nat.le_of_eq hG.symm) annC
  rw [← hG] at hG0 ⊢
  refine wp_forget (fun W0 => Blk W0 H annC 25 ∧ Blk W0 G annC 25 ∧ Below H w W0 ∧ BytesAt W0 ba B) ⟨hA4.old hbb, hG0.setRow _, hw4.trans (hbb.mono (Nat.le_of_lt hlt)), hbr4.below hbb⟩ ?_
  clear hA4 hw4 hbr4 hG0 hG hbb hlt
  rintro w5 ⟨hA, hG, hw, hbr⟩
  have hlt := hA.lt
  have kc := fun (w : World) (C : Array Value) (n c : Nat) => Lib.run_convert_bytes_const (P := Try.prog) w 22 5 C n c Try.underlying22 Try.underlying5
  have hn1 := BytesAt.new w5 #[.int .u8 107, .int .u8 101, .int .u8 121] 5 (3, 4) kk rfl
  go_wp2_with fail
  refine (check_any kk B _ 3 3 ba bn bc 10 _ hn1 rfl (hbr.alloc _) HBL.out hbc).mono ?_
  unfold ChkP
  rw [HC10.out]
  rintro e w6 ⟨rfl, hb6⟩
  have hw6 := (hw.alloc (Nat.le_of_lt hlt) (.cells #[.int .u8 107, .int .u8 101, .int .u8 121] 5 (3, 4))).trans (hb6.mono (by simp; omega))
  have hA6 := (hA.alloc (.cells #[.int .u8 107, .int .u8 101, .int .u8 121] 5 (3, 4))).old hb6
  have hG6 := (hG.alloc (.cells #[.int .u8 107, .int .u8 101, .int .u8 121] 5 (3, 4))).old hb6
  have hbr6 := (hbr.alloc (.cells #[.int .u8 107, .int .u8 101, .int .u8 121] 5 (3, 4))).below hb6
  clear hA hG hw hbr hn1 hb6 hlt kc
  have hlt := hA6.lt
  go_upto_region 5 with (refine wpList_store_blk rfl 25 aggTok (.tmp 6) _ (cells := tokC ze 0 0) rfl rfl rfl (Blk.new _ _ _) rfl rfl rfl ?_)
  have hbb := below_setRow ((Below.refl w6.heap.size w6).alloc (Nat.le_refl _) (.cells (tokC ze 0 0) 25)) (Nat.le_refl _) (tokC ze 0 0)
  refine wp_forget (fun W0 => Blk W0 H annC 25 ∧ Blk W0 G annC 25 ∧ Below H w W0 ∧ BytesAt W0 ba B) ⟨hA6.old hbb, hG6.old hbb, hw6.trans (hbb.mono (Nat.le_of_lt hlt)), hbr6.below hbb⟩ ?_
  clear hA6 hG6 hw6 hbr6 hbb hlt
  rintro w7 ⟨hA, hG, hw, hbr⟩
  have hlt := hA.lt
  have kc := fun (w : World) (C : Array Value) (n c : Nat) => Lib.run_convert_bytes_const (P := Try.prog) w 22 5 C n c Try.underlying22 Try.underlying5
  have hn1 := BytesAt.new w7 #[.int .u8 121, .int .u8 101, .int .u8 107] 5 (3, 4) yk rfl
  go_wp2_with fail
  refine (check_any yk B _ 3 3 ba bn bc 9 _ hn1 rfl (hbr.alloc _) HBL.out hbc).mono ?_
  unfold ChkP
  rw [HCY.out]
  rintro e w8 ⟨rfl, hb8⟩
  have hw8 := (hw.alloc (Nat.le_of_lt hlt) (.cells #[.int .u8 121, .int .u8 101, .int .u8 107] 5 (3, 4))).trans (hb8.mono (by simp; omega))
  have hA8 := (hA.alloc (.cells #[.int .u8 121, .int .u8 101, .int .u8 107] 5 (3, 4))).old hb8
  have hG8 := (hG.alloc (.cells #[.int .u8 121, .int .u8 101, .int .u8 107] 5 (3, 4))).old hb8
  clear hA hG hw hbr hn1 hb8 hlt kc
  have hlt := hA8.lt
  go_upto_region 6 with (refine wpList_store_blk rfl 25 aggTok (.tmp 8) _ (cells := tokC ze 0 0) rfl rfl rfl (Blk.new _ _ _) rfl rfl rfl ?_)
  have hbb := below_setRow ((Below.refl w8.heap.size w8).alloc (Nat.le_refl _) (.cells (tokC ze 0 0) 25)) (Nat.le_refl _) (tokC ze 0 0)
  refine wp_forget (fun W0 => Blk W0 H annC 25 ∧ Blk W0 G annC 25 ∧ Below H w W0) ⟨hA8.old hbb, hG8.old hbb, hw8.trans (hbb.mono (Nat.le_of_lt hlt))⟩ ?_
  clear hA8 hG8 hw8 hbb hlt
  rintro w9 ⟨hA, hG, hw⟩
  have a0 : w9.cell? ⟨H, 0, none⟩ = some (.string (strOf [97, 110, 110])) := hA.cell rfl
  have a1 : w9.cell? ⟨H, 1, none⟩ = some (.int .i8 0) := hA.cell rfl
  have a2 : w9.cell? ⟨H, 2, none⟩ = some (.int .i64 9) := hA.cell rfl
  have g0 : w9.cell? ⟨G, 0, none⟩ = some (.string (strOf [97, 110, 110])) := hG.cell rfl
  have g1 : w9.cell? ⟨G, 1, none⟩ = some (.int .i8 0) := hG.cell rfl
  have g2 : w9.cell? ⟨G, 2, none⟩ = some (.int .i64 9) := hG.cell rfl
  have hlt := hA.lt
  go_wp2_with fail
  refine (may_any ann ann_wf _).mono ?_
  unfold BoolP
  rw [ann_may]
  rintro e w10 ⟨rfl, hb10⟩
  have hw10 := hw.trans (hb10.mono (Nat.le_of_lt hlt))
  have hs10 := hb10.size
  clear a0 a1 a2 g0 g1 g2 hA hG hw hb10
  go_wp2_with fail
  refine (may_any tok0 tok0_wf _).mono ?_
  unfold BoolP
  rw [tok0_may]
  rintro e w11 ⟨rfl, hb11⟩
  go_wp2_with fail
  go_ret
  exact ⟨rfl, HH.out ▸ hw10.trans (hb11.mono (by omega))⟩
end Go.Proofs.Ytlhemmlmhgjodaa

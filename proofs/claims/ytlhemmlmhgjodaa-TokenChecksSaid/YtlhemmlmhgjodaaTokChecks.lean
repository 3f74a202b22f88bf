/- Which bytes are a token's: the walk of the law. -/
import Derived.Test.YtlhemmlmhgjodaaTokCame
namespace Go.Proofs.Ytlhemmlmhgjodaa
open Go.RowKit

theorem tok_equalIn (s : ByteArray) (r u : Int) (W : World) : (Op.equalIn 10000 25 (.agg (tokC s r u)) (.agg (tokC s r u))).run Try.prog W = .ok true W := by
  unfold tokC
  go_simp
def Tc1 (w : World) (H : Nat) (X : List UInt8) (v : Value) (wx : World) : Prop := ∃ a n c, v = .slice a n c ∧ X.length = n ∧ n ≤ c ∧ BytesAt wx a X ∧ Below H w wx
set_option maxHeartbeats 4000000 in
set_option maxRecDepth 100000 in
theorem tokenChecks_any (ka : Option Addr) (kn kc : Nat) (k : List UInt8) (ba : Option Addr) (bn bc : Nat) (b : List UInt8) (now : Int) (sg : Bool) (w : World) (hk : BytesAt w ka k) (hkl : k.length = kn) (hb : BytesAt w ba b) (hbl : b.length = bn) (hbc : bn ≤ bc) (hkm : kn ≤ 140737488351232) :
    Calls Try.prog 4 #[.slice ka kn kc, .slice ba bn bc, .int .i64 now, .bool sg] w (BoolP w true) := by
  have HK := Lib.hid hkl
  have hk0 := Lib.hid hk
  have HB := Lib.hid hbl
  have hb0 := Lib.hid hb
  obtain ⟨H, hH⟩ : ∃ H, H = w.heap.size := ⟨_, rfl⟩
  have HH := Lib.hid hH
  clear hkl hk hbl hb hH
  go_enter Try.func4, Try.ntmps4
  go_upto_region 1 with fail
  go_cut [26] (fun v wx => v = .bool (decide ((300 < kn ∧ kn ≤ 65536) ∨ 500 < bn)) ∧ w = wx)
  case first =>
    by_cases a1 : 300 < kn
    · have t1 : decide ((300 : Int) < (kn : Int)) = true := decide_eq_true (by omega)
      have t2 : decide (300 < kn) = true := decide_eq_true a1
      by_cases a2 : kn ≤ 65536
      · have t3 : decide ((kn : Int) ≤ 65536) = true := decide_eq_true (by omega)
        have t4 : decide (kn ≤ 65536) = true := decide_eq_true a2
        go_wp2_with fail
        go_meet
        exact ⟨congrArg Value.bool (decide_eq_true (by omega)).symm, rfl⟩
      · have t3 : decide ((kn : Int) ≤ 65536) = false := decide_eq_false (by omega)
        have t4 : decide (kn ≤ 65536) = false := decide_eq_false a2
        go_wp2_with fail
        go_meet
        exact ⟨congrArg Value.bool (by rw [decide_eq_decide]; omega), rfl⟩
    · have t1 : decide ((300 : Int) < (kn : Int)) = false := decide_eq_false (by omega)
      have t2 : decide (300 < kn) = false := decide_eq_false a1
      go_wp2_with fail
      go_meet
      exact ⟨congrArg Value.bool (by rw [decide_eq_decide]; omega), rfl⟩
  case rest =>
    obtain ⟨rfl, rfl⟩ := hcut
    by_cases hg : (300 < kn ∧ kn ≤ 65536) ∨ 500 < bn
    · rw [decide_eq_true hg]
      clear hg
      go_wp2_with fail
      refine (tok_wakes _).mono ?_
      rintro e w2 ⟨rfl, hb2⟩
      go_wp2_with fail
      go_ret
      exact ⟨rfl, hb2⟩
    · rw [decide_eq_false hg]
      have hbn : bn ≤ 500 := by omega
      clear hg
      go_upto_if 28 with fail
      go_cut [1] (fun v wx => ∃ X, Tc1 w H X v wx)
      case first =>
        cases sg with
        | false =>
          go_wp2_with fail
          go_meet
          exact ⟨b, ba, bn, bc, rfl, HB.out, hbc, hb0.out, HH.out ▸ Below.refl _ _⟩
        | true =>
          go_wp2_with fail
          refine (rmac_any k b ka kn kc ba bn bc _ hk0.out HK.out (by omega) hb0.out HB.out (by omega)).mono ?_
          unfold RmOut
          rintro e w2 ⟨rfl, hb2⟩
          have hw2 : Below H w w2 := HH.out ▸ hb2
          clear hb2
          have hs2 := hw2.size
          go_upto_region 5 with (refine wpList_store_blk rfl 32 agg32 (.tmp 9) _ (cells := mcA k b) rfl rfl rfl (Blk.new _ _ _) (vA_size _ _) rfl (vA_one fun _ _ => rfl) ?_)
          obtain ⟨G, hG⟩ : ∃ G, G = w2.heap.size := ⟨_, rfl⟩
          have hG0 := Blk.new w2 (vA 32 fun _ => .int .u8 0) 32
          have hbb := below_setRow ((Below.refl w2.heap.size w2).alloc (Nat.le_refl _) (.cells (vA 32 fun _ => .int .u8 0) 32)) (Nat.le_of_eq hG.symm) (mcA k b)
          rw [← hG] at hG0 ⊢
          refine wp_forget (fun W0 => Blk W0 G (dgA (hout k b)) 32 ∧ Below H w W0) ⟨hG0.setRow _, hw2.trans (hbb.mono (by rw [HH.out]; exact hs2))⟩ ?_
          clear hG0 hbb hG hw2 hs2
          rintro w3 ⟨hG, hw⟩
          have hwz : H ≤ w3.heap.size := by rw [HH.out]; exact hw.size
          have hbr := hb0.out.below (HH.out ▸ hw)
          have q2 := all32b G
          have hS := dgl_at hG
          simp only [Act.put]
          refine wp_region_kept w3.heap.size (1 :: 3 :: 0 :: 2 :: 4 :: 5 :: []) (by kernel_rfl) (by kernel_rfl) (fun c a d v w h => by cases d <;> exact h) ?_
          repeat (first | (refine kept_quiet (v := ?_) rfl rfl (by rfl) ?_ ?_; rotate_left; (intro W hW; go_simp); (try with_reducible rfl); simp only [Act.put, List.setIfInBounds_toArray, List.set]) | (refine kept_skip rfl (by rfl) ?_; simp only [Act.put, List.setIfInBounds_toArray, List.set]))
          refine kept_loud rfl rfl (by rfl) (fun K hK => ?_)
          go_wp2_with fail
          have g4 : Below w3.heap.size w3.drew (w3.drew.alloc (.cells #[] 5)) := (Below.refl w3.heap.size w3.drew).alloc (Nat.le_refl _) _
          have h4 := Own.lit (w := w3.drew) (B := w3.heap.size) (e := 5) #[] [] 0 rfl rfl (Nat.le_refl _) (by unfold maxLen; omega)
          refine hK _ _ g4 ?_
          clear hK K
          refine kept_loud rfl rfl (by rfl) (fun K hK => ?_)
          refine wp_append_row _ _ 22 rfl bytesT3 rfl h4 rfl (hbr.drew.below g4) (by rw [List.length_map, HB.out]; omega) (bv_one _) (by unfold maxLen; omega) (by omega) (by simp) ?_
          intro a5 c5 w5 h5 hg5
          have g5 : Below w3.heap.size w3.drew w5 := h4.grown g4 (Nat.le_refl _) hg5 (by simp)
          refine hK _ _ (h4.grown (Below.refl _ _) (Nat.le_refl _) hg5 (by simp)) ?_
          clear hK K hg5 h4 g4
          simp only [Act.put, List.setIfInBounds_toArray, List.set]
          refine kept_loud rfl rfl (by rfl) (fun K hK => ?_)
          refine wp_append_row _ _ 22 rfl bytesT3 rfl h5 rfl (hS.drew.below g5) (by rw [List.length_map, dgl_length]) (bv_one _) (by unfold maxLen; omega) (by omega) g5.size ?_
          intro a6 c6 w6 h6 hg6
          have g6 : Below w3.heap.size w3.drew w6 := h5.grown g5 (Nat.le_refl _) hg6 g5.size
          refine hK _ _ (h5.grown (Below.refl _ _) (Nat.le_refl _) hg6 g5.size) ?_
          clear hK K hg6 h5 g5
          repeat (first | (refine kept_quiet (v := ?_) rfl rfl (by rfl) ?_ ?_; rotate_left; (intro W hW; go_simp); (try with_reducible rfl); simp only [Act.put, List.setIfInBounds_toArray, List.set]) | (refine kept_skip rfl (by rfl) ?_; simp only [Act.put, List.setIfInBounds_toArray, List.set]))
          refine kept_nil ?_
          go_wp2_with fail
          go_meet
          refine ⟨b ++ dgl (hout k b), a6, _, c6, rfl, by rw [List.length_append, HB.out, dgl_length], by have := h6.le; omega, ?_, hw.drew.trans (g6.mono hwz)⟩
          have := h6.row
          unfold BytesAt
          rw [List.map_append]; simpa using this
      case rest =>
        obtain ⟨X, a, n, c, rfl, hXl, hnc, hX, hw⟩ := hcut
        have HX := Lib.hid hXl
        clear hXl
        have hlw := hw.size
        have hchk := fun W hh hx => check_any k X ka kn kc a n c now W hh HK.out hx HX.out hnc
        have hrchk := fun W hh hx => rcheck_any k X ka kn kc a n c now W hh HK.out hx HX.out hnc
        obtain ⟨C, hC⟩ : ∃ C, C = tokCheck k X now := ⟨_, rfl⟩
        unfold ChkP at hchk hrchk
        rw [← hC] at hchk hrchk
        obtain ⟨T, er⟩ := C
        have etv : tokV T = .agg (tokC (strOf T.name) T.role T.til) := rfl
        simp only [etv] at hchk hrchk
        obtain ⟨R, hR⟩ : ∃ R, R = tokC (strOf T.name) T.role T.til := ⟨_, rfl⟩
        have hRs : R.size = 3 := by rw [hR]; rfl
        have hR1 : R.toList.all (·.oneCell') = true := by rw [hR]; rfl
        have heq : ∀ W, (Op.equalIn 10000 25 (.agg R) (.agg R)).run Try.prog W = .ok true W := by
          intro W
          rw [hR]
          exact tok_equalIn _ _ _ W
        rw [← hR] at hchk hrchk
        have HC1 := Lib.hid hchk
        have HC2 := Lib.hid hrchk
        clear hchk hrchk hC etv hR
        go_wp2_with fail
        refine (HC1.out _ (hk0.out.below (HH.out ▸ hw)) hX).mono ?_
        rintro e w2 ⟨rfl, hb2⟩
        have hw2 := hw.trans (hb2.mono (by rw [HH.out]; exact hlw))
        have hX2 := hX.below hb2
        have hlw2 := hw2.size
        clear hw hX hb2
        go_upto_region 7 with (refine wpList_store_blk rfl 25 aggTok (.tmp 10) _ (cells := R) rfl rfl rfl (Blk.new _ _ _) hRs rfl hR1 ?_)
        obtain ⟨G, hG⟩ : ∃ G, G = w2.heap.size := ⟨_, rfl⟩
        have hG0 := Blk.new w2 (tokC ByteArray.empty 0 0) 25
        have hbb := below_setRow ((Below.refl w2.heap.size w2).alloc (Nat.le_refl _) (.cells (tokC ⟨#[]⟩ 0 0) 25)) (Nat.le_of_eq hG.symm) R
        rw [← hG] at hG0 ⊢
        refine wp_forget (fun W0 => Blk W0 G R 25 ∧ Below H w W0 ∧ BytesAt W0 a X) ⟨hG0.setRow _, hw2.trans (hbb.mono (by rw [HH.out]; exact hlw2)), hX2.below hbb⟩ ?_
        clear hG0 hbb hG hw2 hX2 hlw2
        rintro w3 ⟨hG, hw, hX⟩
        have hlt := hG.lt
        have hlw := hw.size
        go_wp2_with fail
        refine (HC2.out _ (hk0.out.below (HH.out ▸ hw)) hX).mono ?_
        rintro e w4 ⟨rfl, hb4⟩
        have hG4 := hG.old hb4
        have hw4 := hw.trans (hb4.mono (by rw [HH.out]; exact hlw))
        clear hG hw hX hb4 hlw hlt
        have hlt := hG4.lt
        have hlw := hw4.size
        go_upto_region 8 with (refine wpList_store_blk rfl 25 aggTok (.tmp 12) _ (cells := R) rfl rfl rfl (Blk.new _ _ _) hRs rfl hR1 ?_)
        obtain ⟨G2, hG2⟩ : ∃ G, G = w4.heap.size := ⟨_, rfl⟩
        have hG0 := Blk.new w4 (tokC ByteArray.empty 0 0) 25
        have hbb := below_setRow ((Below.refl w4.heap.size w4).alloc (Nat.le_refl _) (.cells (tokC ⟨#[]⟩ 0 0) 25)) (Nat.le_of_eq hG2.symm) R
        rw [← hG2] at hG0 ⊢
        refine wp_forget (fun W0 => Blk W0 G R 25 ∧ Blk W0 G2 R 25 ∧ Below H w W0) ⟨hG4.old hbb, hG0.setRow _, hw4.trans (hbb.mono (by rw [HH.out]; exact hlw))⟩ ?_
        clear hG0 hbb hG2 hG4 hw4 hlt hlw
        rintro w5 ⟨hG, hG2, hw⟩
        go_wp2_with (first | refine wpList_load_blk rfl 25 aggTok (.tmp 10) rfl rfl hG hRs ?_ | refine wpList_load_blk rfl 25 aggTok (.tmp 12) rfl rfl hG2 hRs ?_)
        refine (tok_wakes _).mono ?_
        rintro e w6 ⟨rfl, hb6⟩
        go_wp2_with fail
        go_ret
        exact ⟨rfl, HH.out ▸ hw.trans (hb6.mono (by rw [HH.out]; exact hw.size))⟩
end Go.Proofs.Ytlhemmlmhgjodaa

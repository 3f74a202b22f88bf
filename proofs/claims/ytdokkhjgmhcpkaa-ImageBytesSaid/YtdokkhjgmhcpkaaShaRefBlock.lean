/- The walk through a block of the reference's sum. -/
import Derived.Test.YtdokkhjgmhcpkaaShaRefRot
namespace Go.Proofs.Ytdokkhjgmhcpkaa
open Go.RowKit
attribute [local go_sem] shl8_U32 shl16_U32 shl24_U32 conv_U8 ofInt32_U8 bits_xor_u32 bits_and_u32 bits_or_u32 ofInt_U32 addm_U32 add_U32 div8_U32 div1024_U32 not_u32

structure RkI (w : World) (H : Nat) (h W : Nat → BitVec 32) (wr : World) : Prop where
  hst : Blk wr H (vA 8 fun j => wv (h j)) 107
  kst : Blk wr (H + 1) (vA 64 fun j => wv (kwd j)) 109
  res : Blk wr (H + 2) (vA 8 fun _ => .int .u32 0) 107
  words : Blk wr (H + 3) (vA 64 fun j => wv (W j)) 109
  below : Below H w wr
theorem RkI.drew {w : World} {H : Nat} {h W : Nat → BitVec 32} {wr : World} (hI : RkI w H h W wr) : RkI w H h W wr.drew := ⟨hI.hst.drew, hI.kst.drew, hI.res.drew, hI.words.drew, hI.below.drew⟩
theorem RkI.word {w : World} {H : Nat} {h W U : Nat → BitVec 32} {wr : World} (hI : RkI w H h W wr) {t : Nat} (ht : t < 64) {x : BitVec 32} (hU : ∀ j, U j = if j = t then x else W j) : RkI w H h U (wr.setCell ⟨H + 3, t, none⟩ (.int .u32 (U32 x))) :=
  ⟨hI.hst.other _ _ (by show H ≠ H + 3; omega), hI.kst.other _ _ (by show H + 1 ≠ H + 3; omega), hI.res.other _ _ (by show H + 2 ≠ H + 3; omega), (hI.words.setV ht _).ofV fun j _ => by
    rw [hU]
    by_cases e : j = t
    · rw [if_pos e, if_pos e]; rfl
    · rw [if_neg e, if_neg e], hI.below.setCell (by show H ≤ H + 3; omega) _⟩
def Rk1 (w : World) (H : Nat) (h : Nat → BitVec 32) (m : List UInt8) (f : Nat) (i : Value) (wr : World) : Prop :=
  ∃ t : Nat, f + t = 16 ∧ i = .int .i64 (t : Int) ∧ RkI w H h (fun j => if j < t then wd m 0 j else 0#32) wr
def Rk2 (w : World) (H : Nat) (h w0 : Nat → BitVec 32) (f : Nat) (i : Value) (wr : World) : Prop :=
  ∃ t k : Nat, f + t = 64 ∧ t = 16 + k ∧ i = .int .i64 (t : Int) ∧ RkI w H h (wx w0 k) wr
def Rk3 (w : World) (H V : Nat) (h u : Nat → BitVec 32) (f : Nat) (i : Value) (wr : World) : Prop :=
  ∃ t : Nat, f + t = 64 ∧ i = .int .i64 (t : Int) ∧ RkI w H h u wr ∧ Blk wr V (vA 8 fun j => wv (vs h u t j)) 107
def Rk4 (w : World) (H V : Nat) (h u : Nat → BitVec 32) (f : Nat) (i : Value) (wr : World) : Prop :=
  ∃ t : Nat, f + t = 8 ∧ i = .int .i64 (t : Int) ∧ RkI w H (fun j => if j < t then h j + vs h u 64 j else h j) u wr ∧ Blk wr V (vA 8 fun j => wv (vs h u 64 j)) 107
theorem add_rc (a b c : BitVec 32) : a + b + c = a + c + b := by rw [BitVec.add_assoc, BitVec.add_comm b, ← BitVec.add_assoc]
set_option maxHeartbeats 2000000 in
set_option maxRecDepth 100000 in
theorem rblock_any (h : Nat → BitVec 32) (ba : Option Addr) (cap : Nat) (m : List UInt8) (w : World) (hm : BytesAt w ba m) (hlen : m.length = 64) :
    Calls Try.prog 60 #[.agg (vA 8 fun j => wv (h j)), .slice ba 64 cap, .agg (vA 64 fun j => wv (kwd j))] w fun e w' => e = .returned (.agg (vA 8 fun j => wv (cmp h (wd m 0) j))) ∧ Below w.heap.size w w' := by
  have hz1 := zero_run zero64
  obtain ⟨b, o, hba, hc⟩ := hm.at (by omega)
  subst hba
  have HM := Lib.hid hm
  have HL := Lib.hid hlen
  clear hm hc hlen
  go_enter Try.func60, Try.ntmps60
  go_wp2_with fail
  clear hz1
  refine wp_forget (fun W0 => RkI w w.heap.size h (fun _ => 0#32) W0) ⟨(Blk.new3 _ _ _ _ _).alloc _, (Blk.new3' _ _ _ _ _).alloc _, (Blk.new3'' _ _ _ _ _).alloc _, ?_, by (try unfold Kept); repeat (first | assumption | exact Below.refl _ _ | exact below_undrew (Below.refl _ _) | exact Below.mono (by assumption) (by first | (simp; done) | (simp; omega) | omega) | refine below_setRow ?_ (by first | (simp; done) | (simp; omega) | omega) _ | refine Below.setCell ?_ (by first | (simp; done) | (simp; omega) | omega) _ | refine Below.alloc ?_ (by first | (simp; done) | (simp; omega) | omega) _ | refine below_drewN ?_ _ | refine Below.drew ?_ | refine below_undrew ?_ | refine below_step ?_ (by assumption))⟩ ?_
  · have := Blk.new (((w.alloc (.cells (vA 8 fun j => wv (h j)) 107)).alloc (.cells (vA 64 fun j => wv (kwd j)) 109)).alloc (.cells (vA 8 fun _ => .int .u32 0) 107)) (vA 64 fun _ => .int .u32 0) 109
    simp at this
    exact this
  rintro w0 hI
  obtain ⟨H, hH⟩ : ∃ H, H = w.heap.size := ⟨_, rfl⟩
  rw [← hH] at hI ⊢
  have HH := Lib.hid hH
  clear hH
  go_loopg [8] 16 (Rk1 w H h m)
  case atStart => exact ⟨0, by omega, rfl, hI⟩
  case round =>
    clear hI
    obtain ⟨t, hf, rfl, hI⟩ := hrel
    by_cases ht : t < 16
    · have tt : decide ((t : Int) < 16) = true := by simp; omega
      have HF := Lib.hid hf
      clear hf
      obtain ⟨p, hp⟩ : ∃ p, p = 4 * t := ⟨_, rfl⟩
      obtain ⟨p1, hp1⟩ : ∃ q, q = p + 1 := ⟨_, rfl⟩
      obtain ⟨p2, hp2⟩ : ∃ q, q = p + 2 := ⟨_, rfl⟩
      obtain ⟨p3, hp3⟩ : ∃ q, q = p + 3 := ⟨_, rfl⟩
      have e0 : IntKind.i64.wrap (4 * (t : Int)) = (p : Int) := by rw [IntWalk.i64_in _ (by omega)]; omega
      have e1 : IntKind.i64.wrap ((p : Int) + 1) = (p1 : Int) := by rw [IntWalk.i64_in _ (by omega)]; omega
      have e2 : IntKind.i64.wrap ((p : Int) + 2) = (p2 : Int) := by rw [IntWalk.i64_in _ (by omega)]; omega
      have e3 : IntKind.i64.wrap ((p : Int) + 3) = (p3 : Int) := by rw [IntWalk.i64_in _ (by omega)]; omega
      have i0 : (p : Int) < 64 := by omega
      have i1 : (p1 : Int) < 64 := by omega
      have i2 : (p2 : Int) < 64 := by omega
      have i3 : (p3 : Int) < 64 := by omega
      have hmr : BytesAt wr (some ⟨b, o, none⟩) m := HM.out.below (by rw [← HH.out]; exact hI.below)
      have hml := HL.out
      have hcell : ∀ j, (hj : j < m.length) → ∀ W, Old wr.drew W → W.cell? ⟨b, o + j, none⟩ = some (.int .u8 (U8 m[j])) := fun j hj W hW => by
        obtain ⟨b', o', e, hc⟩ := (hmr.drew.below hW).at (by omega)
        obtain ⟨rfl, rfl⟩ : b = b' ∧ o = o' := by simpa using e
        exact hc j hj
      have C0 := hcell p (by omega)
      have C1 := hcell p1 (by omega)
      have C2 := hcell p2 (by omega)
      have C3 := hcell p3 (by omega)
      have htI : (t : Int) < 64 := by omega
      have hwp : wpart m (4 * t) 4 = (m[p].toBitVec.setWidth 32) <<< 24 ||| (m[p1].toBitVec.setWidth 32) <<< 16 ||| (m[p2].toBitVec.setWidth 32) <<< 8 ||| m[p3].toBitVec.setWidth 32 := by
        subst hp3 hp2 hp1
        rw [← hp]
        exact wpart_four m p (by omega)
      obtain ⟨y0, hy0⟩ : ∃ y, y = m[p] := ⟨_, rfl⟩
      obtain ⟨y1, hy1⟩ : ∃ y, y = m[p1] := ⟨_, rfl⟩
      obtain ⟨y2, hy2⟩ : ∃ y, y = m[p2] := ⟨_, rfl⟩
      obtain ⟨y3, hy3⟩ : ∃ y, y = m[p3] := ⟨_, rfl⟩
      rw [← hy0] at C0 hwp
      rw [← hy1] at C1 hwp
      rw [← hy2] at C2 hwp
      rw [← hy3] at C3 hwp
      have HW := Lib.hid hwp
      clear hy0 hy1 hy2 hy3 hwp hcell hmr hml hp3 hp2 hp1 hp
      go_wp2_with fail
      refine wp_region_treeR true Old Old.refl Old.trans (.step 0 (.step 1 (.step 2 (.step 3 (.step 4 (.step 5 (.step 6 (.step 7 (.step 8 (.step 9 (.step 10 (.step 11 (.step 12 (.step 13 (.step 14 (.step 15 (.step 16 (.step 17 (.step 18 (.step 19 (.step 20 (.step 21 (.step 22 (.step 23 (.step 24 (.step 25 (.step 26 (.step 27 (.step 28 (.step 29 (.step 30 (.step 31 (.step 32 (.step 33 (.step 34 (.step 35 .done)))))))))))))))))))))))))))))))))))) (by kernel_rfl) (by kernel_rfl) (fun c a d v w h => by cases d <;> exact h) ?_
      repeat (first | (refine tree_skip rfl (by rfl) ?_; simp only [Act.put, List.setIfInBounds_toArray, List.set]) | (refine tree_quiet (v := ?_) rfl rfl (by rfl) ?_ ?_; rotate_left; (intro W hW; go_simp); (try with_reducible rfl); simp only [Act.put, List.setIfInBounds_toArray, List.set]))
      have hd := hI.drew
      have f3 := hd.words.free
      have c3 := hd.words.atV (show t < 64 by omega) rfl
      refine tree_store rfl rfl (by rfl) (fun K hK => ?_); go_wp2_with fail; refine tree_done ?_
      clear f3 c3
      go_wp2_with fail
      go_roundg (gk - 1)
      case rel =>
        have hf := HF.out
        refine ⟨t + 1, by omega, by go_num, hd.word (by omega) fun j => ?_⟩
        by_cases e : j = t
        · subst e; rw [if_pos rfl, if_pos (by omega), wd, Nat.zero_add, HW.out]
        · rw [if_neg e]
          by_cases e2 : j < t
          · rw [if_pos e2, if_pos (by omega)]
          · rw [if_neg e2, if_neg (by omega)]
      case measure => have hf := HF.out; omega
    · obtain rfl : t = 16 := by omega
      have tt : decide (((16 : Nat) : Int) < 16) = false := by simp
      clear hf
      obtain ⟨w00, hw00⟩ : ∃ u : Nat → BitVec 32, u = fun j => if j < 16 then wd m 0 j else 0#32 := ⟨_, rfl⟩
      rw [← hw00] at hI
      go_wp2_with fail
      go_loopg [9, 10, 11, 12, 13] 48 (fun f i _ _ _ _ wr => Rk2 w H h w00 f i wr)
      case atStart => exact ⟨16, 0, by omega, by omega, rfl, hI⟩
      case round =>
        clear hI
        obtain ⟨t, k, hf, hk, rfl, hI⟩ := hrel
        by_cases ht : t < 64
        · have tt : decide ((t : Int) < 64) = true := by simp; omega
          have HF := Lib.hid hf
          clear hf
          obtain ⟨k1, hk1⟩ : ∃ q, q = k + 1 := ⟨_, rfl⟩
          obtain ⟨k9, hk9⟩ : ∃ q, q = k + 9 := ⟨_, rfl⟩
          obtain ⟨k14, hk14⟩ : ∃ q, q = k + 14 := ⟨_, rfl⟩
          have e1 : IntKind.i64.wrap ((t : Int) - 15) = (k1 : Int) := by rw [IntWalk.i64_in _ (by omega)]; omega
          have e2 : IntKind.i64.wrap ((t : Int) - 2) = (k14 : Int) := by rw [IntWalk.i64_in _ (by omega)]; omega
          have e3 : IntKind.i64.wrap ((t : Int) - 16) = (k : Int) := by rw [IntWalk.i64_in _ (by omega)]; omega
          have e4 : IntKind.i64.wrap ((t : Int) - 7) = (k9 : Int) := by rw [IntWalk.i64_in _ (by omega)]; omega
          have i1 : (k1 : Int) < 64 := by omega
          have i2 : (k14 : Int) < 64 := by omega
          have i3 : (k : Int) < 64 := by omega
          have i4 : (k9 : Int) < 64 := by omega
          have i5 : (t : Int) < 64 := by omega
          obtain ⟨u, hu⟩ : ∃ u, u = wx w00 k := ⟨_, rfl⟩
          rw [← hu] at hI
          have c1 : wr.cell? ⟨H + 3, k1, none⟩ = some (.int .u32 (U32 (u k1))) := hI.words.atV (by omega) rfl
          have c2 : wr.cell? ⟨H + 3, k14, none⟩ = some (.int .u32 (U32 (u k14))) := hI.words.atV (by omega) rfl
          have D3 : ∀ W, Old wr.drew W → W.cell? ⟨H + 3, k, none⟩ = some (.int .u32 (U32 (u k))) := fun W h => (hI.words.drew.old h).atV (by omega) rfl
          have D4 : ∀ W, Old wr.drew W → W.cell? ⟨H + 3, k9, none⟩ = some (.int .u32 (U32 (u k9))) := fun W h => (hI.words.drew.old h).atV (by omega) rfl
          have HU := Lib.hid hu
          have HK := Lib.hid hk
          have HK1 := Lib.hid hk1
          have HK9 := Lib.hid hk9
          have HK14 := Lib.hid hk14
          have f1 : (t : Int) - 15 = (k1 : Int) := by omega
          have f2 : (t : Int) - 2 = (k14 : Int) := by omega
          clear hu hk hk1 hk9 hk14
          go_wp2_with fail
          clear c1 c2
          refine (rrotr_any (u k1) 7 7 rfl (by decide) _).mono ?_
          rintro e w' ⟨rfl, rfl⟩
          go_wp2_with fail
          refine (rrotr_any (u k1) 18 18 rfl (by decide) _).mono ?_
          rintro e w' ⟨rfl, rfl⟩
          go_wp2_with fail
          refine (rrotr_any (u k14) 17 17 rfl (by decide) _).mono ?_
          rintro e w' ⟨rfl, rfl⟩
          go_wp2_with fail
          refine (rrotr_any (u k14) 19 19 rfl (by decide) _).mono ?_
          rintro e w' ⟨rfl, rfl⟩
          go_wp2_with fail
          clear f1 f2
          refine wp_region_treeR true Old Old.refl Old.trans (.step 0 (.step 1 (.step 2 (.step 3 (.step 4 (.step 5 (.step 6 (.step 7 (.step 8 (.step 9 (.step 10 (.step 11 (.step 12 (.step 13 (.step 14 (.step 15 .done)))))))))))))))) (by kernel_rfl) (by kernel_rfl) (fun c a d v w h => by cases d <;> exact h) ?_
          repeat (first | (refine tree_skip rfl (by rfl) ?_; simp only [Act.put, List.setIfInBounds_toArray, List.set]) | (refine tree_quiet (v := ?_) rfl rfl (by rfl) ?_ ?_; rotate_left; (intro W hW; go_simp); (try with_reducible rfl); simp only [Act.put, List.setIfInBounds_toArray, List.set]))
          have hd := hI.drew
          have f3 := hd.words.free
          have c3 := hd.words.atV (show t < 64 by omega) rfl
          refine tree_store rfl rfl (by rfl) (fun K hK => ?_); go_wp2_with fail; refine tree_done ?_
          clear f3 c3
          go_wp2_with fail
          go_roundg (gk - 1)
          case rel =>
            have hf := HF.out
            have hk := HK.out
            refine ⟨t + 1, k + 1, by omega, by omega, by go_num, hd.word (by omega) fun j => ?_⟩
            simp only [wx]
            rw [← HU.out, ← hk, show t - 16 = k by omega, show t - 7 = k9 by have := HK9.out; omega, show t - 15 = k1 by have := HK1.out; omega, show t - 2 = k14 by have := HK14.out; omega]
            by_cases e : j = t
            · rw [if_pos e, if_pos e, add_rc (u k)]; rfl
            · rw [if_neg e, if_neg e]
          case measure => have hf := HF.out; omega
        · obtain rfl : t = 64 := by omega
          have tt : decide (((64 : Nat) : Int) < 64) = false := by simp
          obtain rfl : k = 48 := by omega
          clear hf hk
          obtain ⟨u, hu⟩ : ∃ u, u = wx w00 48 := ⟨_, rfl⟩
          rw [← hu] at hI
          have HU := Lib.hid hu
          have HW := Lib.hid hw00
          clear hu hw00
          have hS := hI.hst
          go_upto_region 15 with (first | refine wpList_load_blk rfl 107 agg8 _ rfl rfl hS (vA_size _ _) ?_ | refine wpList_store_blk rfl 107 agg8 (.tmp 14) _ (cells := vA 8 fun j => wv (h j)) rfl rfl rfl (Blk.new _ _ _) (vA_size _ _) rfl (vA_one fun _ _ => rfl) ?_)
          obtain ⟨V, hV⟩ : ∃ V, V = wr.heap.size := ⟨_, rfl⟩
          have hHV : H + 3 < V := by have := hI.words.lt; omega
          have hV0 := Blk.new wr (vA 8 fun _ => .int .u32 0) 107
          rw [← hV] at hV0 ⊢
          refine wp_forget (fun W0 => RkI w H h u W0 ∧ Blk W0 V (vA 8 fun j => wv (h j)) 107) ⟨⟨(hI.hst.alloc _).setRow_other _ _ (by omega), (hI.kst.alloc _).setRow_other _ _ (by omega), (hI.res.alloc _).setRow_other _ _ (by omega), (hI.words.alloc _).setRow_other _ _ (by omega), below_setRow (hI.below.alloc (by omega) _) (by omega) _⟩, hV0.setRow _⟩ ?_
          clear hI hS hV hV0
          rintro w5 ⟨hI, hV⟩
          go_wp2_with fail
          go_loopg [15, 16, 17, 18, 19] 64 (fun f i _ _ _ _ wr => Rk3 w H V h u f i wr)
          case atStart => exact ⟨0, by omega, rfl, hI, hV⟩
          case round =>
            clear hI hV
            obtain ⟨t, hf, rfl, hI, hV⟩ := hrel
            by_cases ht : t < 64
            · have tt : decide ((t : Int) < 64) = true := by simp; omega
              have htI : (t : Int) < 64 := by omega
              have HF := Lib.hid hf
              clear hf
              obtain ⟨v, hv⟩ : ∃ v, v = vs h u t := ⟨_, rfl⟩
              rw [← hv] at hV
              have HV := Lib.hid hv
              clear hv
              have d0 : wr.cell? ⟨V, 0, none⟩ = some (.int .u32 (U32 (v 0))) := hV.atV (by omega) rfl
              have d4 : wr.cell? ⟨V, 4, none⟩ = some (.int .u32 (U32 (v 4))) := hV.atV (by omega) rfl
              go_upto_region 20 with fail
              clear d0 d4
              have C5 : ∀ W, Old wr.drew W → W.cell? ⟨V, 5, none⟩ = some (.int .u32 (U32 (v 5))) := fun W h => (hV.drew.old h).atV (by omega) rfl
              have C6 : ∀ W, Old wr.drew W → W.cell? ⟨V, 6, none⟩ = some (.int .u32 (U32 (v 6))) := fun W h => (hV.drew.old h).atV (by omega) rfl
              have C7 : ∀ W, Old wr.drew W → W.cell? ⟨V, 7, none⟩ = some (.int .u32 (U32 (v 7))) := fun W h => (hV.drew.old h).atV (by omega) rfl
              have CK : ∀ W, Old wr.drew W → W.cell? ⟨H + 1, t, none⟩ = some (.int .u32 (U32 (kwd t))) := fun W h => (hI.kst.drew.old h).atV ht rfl
              have CW : ∀ W, Old wr.drew W → W.cell? ⟨H + 3, t, none⟩ = some (.int .u32 (U32 (u t))) := fun W h => (hI.words.drew.old h).atV ht rfl
              have D1 : ∀ W, Old wr.drew.drew W → W.cell? ⟨V, 1, none⟩ = some (.int .u32 (U32 (v 1))) := fun W h => (hV.drew.drew.old h).atV (by omega) rfl
              have D2 : ∀ W, Old wr.drew.drew W → W.cell? ⟨V, 2, none⟩ = some (.int .u32 (U32 (v 2))) := fun W h => (hV.drew.drew.old h).atV (by omega) rfl
              refine wp_region_old (0 :: 1 :: 2 :: 4 :: 7 :: 11 :: 12 :: 13 :: 14 :: 15 :: 16 :: 17 :: 18 :: 19 :: 20 :: 22 :: 23 :: 24 :: 26 :: 27 :: 28 :: 3 :: 5 :: 6 :: 8 :: 9 :: 10 :: 21 :: 25 :: 29 :: 30 :: []) (by kernel_rfl) (by kernel_rfl) (fun c a d v w h => by cases d <;> exact h) ?_
              repeat (first | (refine lex_skip rfl (by rfl) ?_; simp only [Act.put, List.setIfInBounds_toArray, List.set]) | (refine lex_quiet (v := ?_) rfl rfl (by rfl) ?_ ?_; rotate_left; (intro W hW; go_simp); (try with_reducible rfl); simp only [Act.put, List.setIfInBounds_toArray, List.set]))
              refine lex_loud rfl rfl (by rfl) (fun K hK => ?_); go_wp2_with fail
              refine (rrotr_any (v 4) 6 6 rfl (by decide) _).mono ?_
              rintro e w' ⟨rfl, rfl⟩
              go_wp2_with fail
              refine hK _ _ (Old.refl _) ?_
              clear hK K
              repeat (first | (refine lex_skip rfl (by rfl) ?_; simp only [Act.put, List.setIfInBounds_toArray, List.set]) | (refine lex_quiet (v := ?_) rfl rfl (by rfl) ?_ ?_; rotate_left; (intro W hW; go_simp); (try with_reducible rfl); simp only [Act.put, List.setIfInBounds_toArray, List.set]))
              refine lex_loud rfl rfl (by rfl) (fun K hK => ?_); go_wp2_with fail
              refine (rrotr_any (v 4) 11 11 rfl (by decide) _).mono ?_
              rintro e w' ⟨rfl, rfl⟩
              go_wp2_with fail
              refine hK _ _ (Old.refl _) ?_
              clear hK K
              repeat (first | (refine lex_skip rfl (by rfl) ?_; simp only [Act.put, List.setIfInBounds_toArray, List.set]) | (refine lex_quiet (v := ?_) rfl rfl (by rfl) ?_ ?_; rotate_left; (intro W hW; go_simp); (try with_reducible rfl); simp only [Act.put, List.setIfInBounds_toArray, List.set]))
              refine lex_loud rfl rfl (by rfl) (fun K hK => ?_); go_wp2_with fail
              refine (rrotr_any (v 4) 25 25 rfl (by decide) _).mono ?_
              rintro e w' ⟨rfl, rfl⟩
              go_wp2_with fail
              refine hK _ _ (Old.refl _) ?_
              clear hK K
              repeat (first | (refine lex_skip rfl (by rfl) ?_; simp only [Act.put, List.setIfInBounds_toArray, List.set]) | (refine lex_quiet (v := ?_) rfl rfl (by rfl) ?_ ?_; rotate_left; (intro W hW; go_simp); (try with_reducible rfl); simp only [Act.put, List.setIfInBounds_toArray, List.set]))
              refine lex_nil ?_
              clear C5 C6 C7 CK CW
              go_wp2_with fail
              refine wp_region_old (0 :: 2 :: 5 :: 8 :: 9 :: 10 :: 11 :: 12 :: 13 :: 14 :: 15 :: 16 :: 17 :: 18 :: 19 :: 20 :: 21 :: 22 :: 1 :: 3 :: 4 :: 6 :: 7 :: 23 :: 24 :: []) (by kernel_rfl) (by kernel_rfl) (fun c a d v w h => by cases d <;> exact h) ?_
              repeat (first | (refine lex_skip rfl (by rfl) ?_; simp only [Act.put, List.setIfInBounds_toArray, List.set]) | (refine lex_quiet (v := ?_) rfl rfl (by rfl) ?_ ?_; rotate_left; (intro W hW; go_simp); (try with_reducible rfl); simp only [Act.put, List.setIfInBounds_toArray, List.set]))
              refine lex_loud rfl rfl (by rfl) (fun K hK => ?_); go_wp2_with fail
              refine (rrotr_any (v 0) 2 2 rfl (by decide) _).mono ?_
              rintro e w' ⟨rfl, rfl⟩
              go_wp2_with fail
              refine hK _ _ (Old.refl _) ?_
              clear hK K
              repeat (first | (refine lex_skip rfl (by rfl) ?_; simp only [Act.put, List.setIfInBounds_toArray, List.set]) | (refine lex_quiet (v := ?_) rfl rfl (by rfl) ?_ ?_; rotate_left; (intro W hW; go_simp); (try with_reducible rfl); simp only [Act.put, List.setIfInBounds_toArray, List.set]))
              refine lex_loud rfl rfl (by rfl) (fun K hK => ?_); go_wp2_with fail
              refine (rrotr_any (v 0) 13 13 rfl (by decide) _).mono ?_
              rintro e w' ⟨rfl, rfl⟩
              go_wp2_with fail
              refine hK _ _ (Old.refl _) ?_
              clear hK K
              repeat (first | (refine lex_skip rfl (by rfl) ?_; simp only [Act.put, List.setIfInBounds_toArray, List.set]) | (refine lex_quiet (v := ?_) rfl rfl (by rfl) ?_ ?_; rotate_left; (intro W hW; go_simp); (try with_reducible rfl); simp only [Act.put, List.setIfInBounds_toArray, List.set]))
              refine lex_loud rfl rfl (by rfl) (fun K hK => ?_); go_wp2_with fail
              refine (rrotr_any (v 0) 22 22 rfl (by decide) _).mono ?_
              rintro e w' ⟨rfl, rfl⟩
              go_wp2_with fail
              refine hK _ _ (Old.refl _) ?_
              clear hK K
              repeat (first | (refine lex_skip rfl (by rfl) ?_; simp only [Act.put, List.setIfInBounds_toArray, List.set]) | (refine lex_quiet (v := ?_) rfl rfl (by rfl) ?_ ?_; rotate_left; (intro W hW; go_simp); (try with_reducible rfl); simp only [Act.put, List.setIfInBounds_toArray, List.set]))
              refine lex_nil ?_
              clear D1 D2
              have hI := hI.drew.drew
              have hV := hV.drew.drew
              have g0 : wr.drew.drew.cell? ⟨V, 0, none⟩ = some (.int .u32 (U32 (v 0))) := hV.atV (by omega) rfl
              have g1 : wr.drew.drew.cell? ⟨V, 1, none⟩ = some (.int .u32 (U32 (v 1))) := hV.atV (by omega) rfl
              have g2 : wr.drew.drew.cell? ⟨V, 2, none⟩ = some (.int .u32 (U32 (v 2))) := hV.atV (by omega) rfl
              have g3 : wr.drew.drew.cell? ⟨V, 3, none⟩ = some (.int .u32 (U32 (v 3))) := hV.atV (by omega) rfl
              have g4 : wr.drew.drew.cell? ⟨V, 4, none⟩ = some (.int .u32 (U32 (v 4))) := hV.atV (by omega) rfl
              have g5 : wr.drew.drew.cell? ⟨V, 5, none⟩ = some (.int .u32 (U32 (v 5))) := hV.atV (by omega) rfl
              have g6 : wr.drew.drew.cell? ⟨V, 6, none⟩ = some (.int .u32 (U32 (v 6))) := hV.atV (by omega) rfl
              go_wp2_with (refine wpList_store_blk rfl 107 agg8 (.tmp 14) _ (cells := vA 8 fun j => wv (rd v (kwd t) (u t) j)) rfl rfl rfl hV (vA_size _ _) (vA_size _ _) (vA_one fun _ _ => rfl) ?_)
              clear g0 g1 g2 g3 g4 g5 g6
              go_wp2_with fail
              go_roundg (gk - 1)
              case rel =>
                have hf := HF.out
                refine ⟨t + 1, by omega, by go_num, ⟨hI.hst.setRow_other _ _ (by omega), hI.kst.setRow_other _ _ (by omega), hI.res.setRow_other _ _ (by omega), hI.words.setRow_other _ _ (by omega), below_setRow hI.below (by omega) _⟩, ?_⟩
                rw [vs, ← HV.out]
                exact hV.setRow _
              case measure => have hf := HF.out; omega
            · obtain rfl : t = 64 := by omega
              have tt : decide (((64 : Nat) : Int) < 64) = false := by simp
              clear hf
              go_wp2_with fail
              go_loopg [20] 8 (Rk4 w H V h u)
              case atStart => exact ⟨0, by omega, rfl, hI, hV⟩
              case round =>
                clear hI hV
                obtain ⟨t, hf, rfl, hI, hV⟩ := hrel
                by_cases ht : t < 8
                · have tt : decide ((t : Int) < 8) = true := by simp; omega
                  have htI : (t : Int) < 8 := by omega
                  have HF := Lib.hid hf
                  clear hf
                  have C1 : ∀ W, Old wr.drew W → W.cell? ⟨H, t, none⟩ = some (.int .u32 (U32 (h t))) := fun W hW => (hI.hst.drew.old hW).atV (by omega) (by rw [if_neg (by omega)]; rfl)
                  have C2 : ∀ W, Old wr.drew W → W.cell? ⟨V, t, none⟩ = some (.int .u32 (U32 (vs h u 64 t))) := fun W hW => (hV.drew.old hW).atV (by omega) rfl
                  go_wp2_with fail
                  refine wp_region_treeR true Old Old.refl Old.trans (.step 0 (.step 1 (.step 2 (.step 3 (.step 4 (.step 5 (.step 6 (.step 7 (.step 8 (.step 9 .done)))))))))) (by kernel_rfl) (by kernel_rfl) (fun c a d v w h => by cases d <;> exact h) ?_
                  repeat (first | (refine tree_skip rfl (by rfl) ?_; simp only [Act.put, List.setIfInBounds_toArray, List.set]) | (refine tree_quiet (v := ?_) rfl rfl (by rfl) ?_ ?_; rotate_left; (intro W hW; go_simp); (try with_reducible rfl); simp only [Act.put, List.setIfInBounds_toArray, List.set]))
                  have hd := hI.drew
                  have f3 := hd.hst.free
                  have c3 := hd.hst.atV (show t < 8 by omega) rfl
                  refine tree_store rfl rfl (by rfl) (fun K hK => ?_); go_wp2_with fail; refine tree_done ?_
                  clear f3 c3
                  go_wp2_with fail
                  go_roundg (gk - 1)
                  case rel =>
                    have hf := HF.out
                    refine ⟨t + 1, by omega, by go_num, ⟨?_, hd.kst.other _ _ (by show H + 1 ≠ H; omega), hd.res.other _ _ (by show H + 2 ≠ H; omega), hd.words.other _ _ (by show H + 3 ≠ H; omega), hd.below.setCell (by show H ≤ H; omega) _⟩, hV.drew.other _ _ (by show V ≠ H; omega)⟩
                    refine (hd.hst.setV (by omega) _).ofV fun j _ => ?_
                    by_cases e : j = t
                    · subst e; rw [if_pos rfl, if_pos (by omega)]; rfl
                    · rw [if_neg e]
                      by_cases e3 : j < t
                      · rw [if_pos e3, if_pos (by omega)]
                      · rw [if_neg e3, if_neg (by omega)]
                  case measure => have hf := HF.out; omega
                · obtain rfl : t = 8 := by omega
                  have tt : decide (((8 : Nat) : Int) < 8) = false := by simp
                  clear hf
                  have hS : Blk wr H (vA 8 fun j => wv (cmp h (wd m 0) j)) 107 := hI.hst.ofV fun j hj => by
                    rw [if_pos hj, cmp_of (w' := wd m 0) HU.out (fun t ht => (congrFun HW.out t).trans (if_pos ht)) j hj]
                  have hR := hI.res
                  go_wp2_with (first | refine wpList_load_blk rfl 107 agg8 _ rfl rfl hS (vA_size _ _) ?_ | refine wpList_store_blk rfl 107 agg8 (.tmp 6) _ (cells := vA 8 fun j => wv (cmp h (wd m 0) j)) rfl rfl rfl hR (vA_size _ _) (vA_size _ _) (vA_one fun _ _ => rfl) ?_)
                  refine post_blk rfl agg8 rfl (hR.setRow _) (vA_size _ _) rfl ⟨rfl, ?_⟩
                  rw [← HH.out]
                  exact below_setRow hI.below (by omega) _
end Go.Proofs.Ytdokkhjgmhcpkaa

/- The walk through the reference's stream. -/
import Derived.Test.YtiadhcipfgckoaaAesRefEnc
import Derived.Test.YtiadhcipfgckoaaAesStream
import Derived.Test.YtiadhcipfgckoaaMems
namespace Go.Proofs.Ytiadhcipfgckoaa
open Go.RowKit
attribute [local go_sem] bits_xor_B8 bits_and_B8 bits_or_B8 ofInt_B8

theorem ctm_nat (nonce : Nat → BitVec 8) (q m p : Nat) (hp : p = 2 ^ (24 - 8 * m)) : B8 (ctr nonce q (12 + m)) = ((q / p % 256 : Nat) : Int) := by
  rw [ctr, if_neg (by omega), show 12 + m - 12 = m by omega, ← hp]
  show (((BitVec.ofNat 8 (q / p)).toNat : Nat) : Int) = _
  rw [BitVec.toNat_ofNat]
theorem ctm_b0 (nonce : Nat → BitVec 8) (q : Nat) (_h : q < 4096) : (q : Int) / 16777216 = B8 (ctr nonce q (12 + 0)) := by rw [ctm_nat nonce q 0 16777216 rfl]; omega
theorem ctm_b1 (nonce : Nat → BitVec 8) (q : Nat) (_h : q < 4096) : (q : Int) / 65536 = B8 (ctr nonce q (12 + 1)) := by rw [ctm_nat nonce q 1 65536 rfl]; omega
theorem ctm_b2 (nonce : Nat → BitVec 8) (q : Nat) (_h : q < 4096) : (q : Int) / 256 = B8 (ctr nonce q (12 + 2)) := by rw [ctm_nat nonce q 2 256 rfl]; omega
theorem ctm_b3 (nonce : Nat → BitVec 8) (q : Nat) : (q : Int) % 256 = B8 (ctr nonce q (12 + 3)) := by rw [ctm_nat nonce q 3 1 rfl]; omega
theorem ctm_step {wr : World} {X q m : Nat} {nonce xs : Nat → BitVec 8} {z : Int} (hm : m < 4) (h : Blk wr X (fA 16 (fun i => if i < 12 then nonce i else if i < 12 + m then ctr nonce q i else xs i)) 46)
    (hz : z = B8 (ctr nonce q (12 + m))) : Blk (wr.setCell ⟨X, 12 + m, none⟩ (.int .u8 z)) X (fA 16 (fun i => if i < 12 then nonce i else if i < 12 + (m + 1) then ctr nonce q i else xs i)) 46 := by
  subst hz
  refine (h.setF (by omega) (ctr nonce q (12 + m))).ofF fun i hi => ?_
  by_cases e : i = 12 + m
  · subst e; rw [if_pos rfl, if_neg (by omega), if_pos (by omega)]
  · rw [if_neg e]
    by_cases h2 : i < 12
    · rw [if_pos h2, if_pos h2]
    · rw [if_neg h2, if_neg h2]
      by_cases h3 : i < 12 + m
      · rw [if_pos h3, if_pos (by omega)]
      · rw [if_neg h3, if_neg (by omega)]

structure RsIn (w : World) (H Xb : Nat) (key nonce : Nat → BitVec 8) (l : List UInt8) (k : Nat) (oa : Option Addr) (oc : Nat) (wr : World) : Prop where
  bkey : Blk wr H (fA 16 key) 46
  bnonce : Blk wr (H + 1) (fA 12 nonce) 54
  box : Blk wr Xb (fA 256 boxf) 69
  own : Own wr H 5 1 oa k oc ((stk key nonce l k).map bv)
  below : Below H w wr
section
variable {w : World} {H Xb : Nat} {key nonce : Nat → BitVec 8} {l : List UInt8} {k : Nat} {oa : Option Addr} {oc : Nat} {wr wq : World}
theorem RsIn.drew (h : RsIn w H Xb key nonce l k oa oc wr) : RsIn w H Xb key nonce l k oa oc wr.drew := ⟨h.bkey, h.bnonce, h.box, h.own.drew, h.below.drew⟩
theorem RsIn.old (h : RsIn w H Xb key nonce l k oa oc wr) (hb : Below wr.heap.size wr wq) : RsIn w H Xb key nonce l k oa oc wq :=
  ⟨h.bkey.old hb, h.bnonce.old hb, h.box.old hb, h.own.old hb, h.below.trans (hb.mono (by have := h.bkey.lt; omega))⟩
theorem RsIn.far (h : RsIn w H Xb key nonce l k oa oc wr) {T : Nat} {cs : Array Value} {t : TypeId} (hT : Blk wr T cs t) (ht : t ≠ 5) (h1 : H + 1 < T) (h2 : T ≠ Xb) (i : Nat) (v : Value) : RsIn w H Xb key nonce l k oa oc (wr.setCell ⟨T, i, none⟩ v) :=
  ⟨h.bkey.other _ _ (by show H ≠ T; omega), h.bnonce.other _ _ (by show H + 1 ≠ T; omega), h.box.other _ _ (by show Xb ≠ T; omega), h.own.setCell_apart hT ht _ _, h.below.setCell (by show H ≤ T; omega) _⟩
theorem RsIn.farRow (h : RsIn w H Xb key nonce l k oa oc wr) {T : Nat} {cs : Array Value} {t : TypeId} (hT : Blk wr T cs t) (ht : t ≠ 5) (h1 : H + 1 < T) (h2 : T ≠ Xb) (cs' : Array Value) : RsIn w H Xb key nonce l k oa oc (wr.setRow T cs') :=
  ⟨h.bkey.setRow_other _ _ (by omega), h.bnonce.setRow_other _ _ (by omega), h.box.setRow_other _ _ (by omega), h.own.setRow_apart hT ht _, below_setRow h.below (by omega) _⟩
end
def Rs1 (w : World) (H Xb : Nat) (key nonce : Nat → BitVec 8) (l : List UInt8) (f : Nat) (o i : Value) (wr : World) : Prop :=
  ∃ (m A k : Nat) (oa : Option Addr) (oc : Nat), f + m = (l.length + 15) / 16 ∧ A = 16 * m ∧ k = min A l.length ∧ i = .int .i64 (A : Int) ∧ o = .slice oa k oc ∧ RsIn w H Xb key nonce l k oa oc wr
def Rs2 (w : World) (H Xb X : Nat) (key nonce : Nat → BitVec 8) (l : List UInt8) (k : Nat) (oa : Option Addr) (oc : Nat) (f : Nat) (i : Value) (wr : World) : Prop :=
  ∃ q : Nat, f + q = 12 ∧ i = .int .i64 (q : Int) ∧ RsIn w H Xb key nonce l k oa oc wr ∧ Blk wr X (fA 16 fun j => if j < q then nonce j else 0#8) 46
def Rs3 (w : World) (H Xb X m : Nat) (key nonce : Nat → BitVec 8) (l : List UInt8) (k : Nat) (oa : Option Addr) (oc : Nat) (f : Nat) (i : Value) (wr : World) : Prop :=
  ∃ q : Nat, f + q = 4 ∧ i = .int .i64 (q : Int) ∧ RsIn w H Xb key nonce l k oa oc wr ∧ Blk wr X (fA 16 fun j => if j < 12 then nonce j else if j < 12 + q then ctr nonce m j else 0#8) 46
def Rs4 (w : World) (H Xb Y m A : Nat) (key nonce : Nat → BitVec 8) (l : List UInt8) (f : Nat) (o i : Value) (wr : World) : Prop :=
  ∃ (k : Nat) (oa : Option Addr) (oc : Nat), f + k = min (A + 16) l.length ∧ A ≤ k ∧ i = .int .i64 (k : Int) ∧ o = .slice oa k oc ∧ RsIn w H Xb key nonce l k oa oc wr ∧ Blk wr Y (fA 16 (enc key (ctr nonce m))) 46

theorem rs_next {w : World} {H Xb Y : Nat} {key nonce : Nat → BitVec 8} {l : List UInt8} {k : Nat} {oa oa' : Option Addr} {oc oc' : Nat} {ys : Nat → BitVec 8} {w6 w7 : World} (hk : k < l.length) (hH : H ≤ w6.heap.size)
    (hin : RsIn w H Xb key nonce l k oa oc w6) (hY : Blk w6 Y (fA 16 ys) 46) {cs : Array Value} {ty : TypeId} {v : BitVec 8}
    (hown : Own w7 H 5 1 oa' (k + 1) oc' ((stk key nonce l k).map bv ++ [.int .u8 (B8 (l[k].toBitVec ^^^ v))]))
    (hg : (w6.alloc (.cells cs ty)).grownBy w7 (Value.slice oa k oc).ownBlock) (he : ksb key nonce k = v) : RsIn w H Xb key nonce l (k + 1) oa' oc' w7 ∧ Blk w7 Y (fA 16 ys) 46 := by
  have hG : l.getD k 0 = l[k] := by rw [List.getD_eq_getElem?_getD, List.getElem?_eq_getElem hk]; rfl
  have kn := KeepNot.grown (hin.own.alloc (.cells cs ty)) hg
  refine ⟨⟨(hin.bkey.alloc _).keepNot kn (by decide), (hin.bnonce.alloc _).keepNot kn (by decide), (hin.box.alloc _).keepNot kn (by decide), ?_, (hin.own.alloc _).grown (hin.below.alloc hH _) (Nat.le_refl _) hg (by simp; omega)⟩, (hY.alloc _).keepNot kn (by decide)⟩
  rw [stk_snoc, List.map_append, hG, he]
  exact hown

theorem rstream_long (key nonce : Nat → BitVec 8) (a : Option Addr) (len cap : Nat) (w : World) (h : 65536 < len) :
    Calls Try.prog 27 #[.agg (fA 16 key), .agg (fA 12 nonce), .slice a len cap] w fun e w' => e = .returned (.tuple #[.slice none 0 0, .int .i64 3]) ∧ Below w.heap.size w w' := by
  have t1 : decide ((65536 : Int) < (len : Int)) = true := by simp; omega
  go_enter Try.func27, Try.ntmps27
  go_wp2_with fail
  go_ret2
  exact ⟨rfl, by (try unfold Kept); repeat (first | assumption | exact Below.refl _ _ | exact below_undrew (Below.refl _ _) | exact Below.mono (by assumption) (by first | (simp; done) | (simp; omega) | omega) | refine below_setRow ?_ (by first | (simp; done) | (simp; omega) | omega) _ | refine Below.setCell ?_ (by first | (simp; done) | (simp; omega) | omega) _ | refine Below.alloc ?_ (by first | (simp; done) | (simp; omega) | omega) _ | refine below_drewN ?_ _ | refine Below.drew ?_ | refine below_undrew ?_ | refine below_step ?_ (by assumption))⟩

set_option maxHeartbeats 2000000 in
set_option maxRecDepth 100000 in
theorem rstream_any (key nonce : Nat → BitVec 8) (a : Option Addr) (len cap : Nat) (l : List UInt8) (w : World) (hl : BytesAt w a l) (hlen : l.length = len) (hm : len ≤ 65536) :
    Calls Try.prog 27 #[.agg (fA 16 key), .agg (fA 12 nonce), .slice a len cap] w fun e w' => ∃ a' c', e = .returned (.tuple #[.slice a' len c', .int .i64 0]) ∧ Own w' w.heap.size 5 1 a' len c' ((stm key nonce l).map bv) ∧ Below w.heap.size w w' := by
  have t1 : decide ((65536 : Int) < (len : Int)) = false := by simp; omega
  have HL := Lib.hid hlen
  have HZ2 := Lib.hid (zero_runA zero256)
  clear hlen
  go_enter Try.func27, Try.ntmps27
  go_upto_region 3 with (fail)
  refine wp_forget (fun W0 => Blk W0 w.heap.size (fA 16 key) 46 ∧ Blk W0 (w.heap.size + 1) (fA 12 nonce) 54 ∧ Below w.heap.size w W0) ⟨Blk.new2 _ _ _ _, Blk.new2' _ _ _ _, by (try unfold Kept); repeat (first | assumption | exact Below.refl _ _ | exact below_undrew (Below.refl _ _) | exact Below.mono (by assumption) (by first | (simp; done) | (simp; omega) | omega) | refine below_setRow ?_ (by first | (simp; done) | (simp; omega) | omega) _ | refine Below.setCell ?_ (by first | (simp; done) | (simp; omega) | omega) _ | refine Below.alloc ?_ (by first | (simp; done) | (simp; omega) | omega) _ | refine below_drewN ?_ _ | refine Below.drew ?_ | refine below_undrew ?_ | refine below_step ?_ (by assumption))⟩ ?_
  rintro w0 ⟨hK, hN, hb⟩
  obtain ⟨H, hH⟩ : ∃ H, H = w.heap.size := ⟨_, rfl⟩
  rw [← hH] at hK hN hb ⊢
  have HH := Lib.hid hH
  clear hH
  go_wp2_with fail
  refine (rboxes_any _).mono ?_
  rintro e w1 ⟨rfl, hb1⟩
  replace hb := hb.trans (hb1.mono (by have := hK.lt; omega))
  replace hK := hK.old hb1
  replace hN := hN.old hb1
  clear hb1
  have hz1 := HZ2.out
  go_upto_region 5 with (refine wpList_store_blk rfl 69 agg256 (.tmp 8) _ (cells := fA 256 boxf) rfl rfl rfl (Blk.new _ _ _) (fA_size _ _) (fA_size _ _) (fA_one _ _) ?_)
  clear hz1
  obtain ⟨Xb, hXb⟩ : ∃ K, K = w1.heap.size := ⟨_, rfl⟩
  have hHX : H + 1 < Xb := by have := hN.lt; omega
  have hX0 := Blk.new w1 (fA 256 fun _ => 0#8) 69
  rw [← hXb] at hX0 ⊢
  refine wp_forget (fun W0 => RsIn w H Xb key nonce l 0 none 0 W0) ⟨(hK.alloc _).setRow_other _ _ (by omega), (hN.alloc _).setRow_other _ _ (by omega), hX0.setRow _, Own.nil _ _ _ _, below_setRow (hb.alloc (by omega) _) (by omega) _⟩ ?_
  clear hK hN hb hXb hX0
  rintro w2 hI
  go_wp2_with fail
  go_loopg [9, 10] ((l.length + 15) / 16) (Rs1 w H Xb key nonce l)
  case atStart => exact ⟨0, 0, 0, _, _, by omega, rfl, by omega, rfl, rfl, hI⟩
  case round =>
    clear hI
    obtain ⟨m, A, k, oa, oc, hf, hA, hk, rfl, rfl, hI⟩ := hrel
    have hlen := HL.out
    by_cases hlt : A < len
    · have tk : decide ((A : Int) < (len : Int)) = true := by simp; omega
      obtain rfl : k = A := by omega
      have HF := Lib.hid hf
      have HA := Lib.hid hA
      clear hf hk hA hlen
      obtain ⟨g0, rfl⟩ : ∃ g : Nat, g = gk := ⟨_, rfl⟩
      obtain ⟨X, hX⟩ : ∃ X, X = wr.heap.size := ⟨_, rfl⟩
      have hXX : Xb < X := by have := hI.box.lt; omega
      go_wp2_with fail
      refine wp_forget (fun W0 => RsIn w H Xb key nonce l k oa oc W0 ∧ Blk W0 X (fA 16 fun _ => 0#8) 46) ⟨hI.old ((Below.refl _ _).alloc (Nat.le_refl _) _), by rw [hX]; exact Blk.new _ _ _⟩ ?_
      rw [← hX]
      clear hI hX
      rintro w3 ⟨hI, hT⟩
      go_loopg [12] 12 (Rs2 w H Xb X key nonce l k oa oc)
      case atStart => exact ⟨0, by omega, rfl, hI, by simpa using hT⟩
      case round =>
        clear hI hT
        obtain ⟨q, hf, rfl, hI, hT⟩ := hrel
        by_cases hq : q < 12
        · have tq : decide ((q : Int) < 12) = true := by simp; omega
          have HF2 := Lib.hid hf
          clear hf
          have hqI : (q : Int) < 12 := by omega
          have c0 := hI.bnonce.atF hq (show nonce q = nonce q from rfl)
          have r3 := hT.rule
          have f3 := hT.free
          have ck3 := fA_at (fun j => if j < q then nonce j else 0#8) (show q < 16 by omega)
          go_wp2_with fail
          clear r3 f3 ck3 c0
          go_roundg (gk - 1)
          case rel =>
            have hf := HF2.out
            exact ⟨q + 1, by omega, by go_num, hI.far hT (by decide) (by omega) (by omega) _ _, (hT.setF (by omega) (nonce q)).ofF fun i _ => congrFun (step_fun q nonce fun _ => 0#8) i⟩
          case measure => have hf := HF2.out; omega
        · obtain rfl : q = 12 := by omega
          have tq : decide (((12 : Nat) : Int) < 12) = false := by simp
          clear hf
          have hmI : (k : Int) / 16 = (m : Int) := by have := HA.out; omega
          have hm4 : (m : Int) < 4096 := by have := HA.out; omega
          go_wp2_with fail
          clear hmI
          go_loopg [14] 4 (Rs3 w H Xb X m key nonce l k oa oc)
          case atStart => exact ⟨0, by omega, rfl, hI, hT.ofF fun i _ => by
            by_cases h : i < 12
            · rw [if_pos h, if_pos h]
            · rw [if_neg h, if_neg h, if_neg (by omega)]⟩
          case round =>
            clear hI hT
            obtain ⟨q, hf, rfl, hI, hT⟩ := hrel
            have HM := Lib.hid hf
            have hcs : q = 0 ∨ q = 1 ∨ q = 2 ∨ q = 3 ∨ q = 4 := by omega
            clear hf
            rcases hcs with rfl | rfl | rfl | rfl | rfl
            · have r1 := hT.rule
              have f1 := hT.free
              have c1 := fA_at (n := 16) (i := 12) (fun j => if j < 12 then nonce j else if j < 12 + 0 then ctr nonce m j else 0#8) (by omega)
              go_wp2_with fail
              clear r1 f1 c1
              go_roundg (gk - 1)
              case rel => exact ⟨1, by have := HM.out; omega, rfl, hI.far hT (by decide) (by omega) (by omega) _ _, ctm_step (by omega) hT (ctm_b0 nonce m (by omega))⟩
              case measure => have := HM.out; omega
            · have r1 := hT.rule
              have f1 := hT.free
              have c1 := fA_at (n := 16) (i := 13) (fun j => if j < 12 then nonce j else if j < 12 + 1 then ctr nonce m j else 0#8) (by omega)
              go_wp2_with fail
              clear r1 f1 c1
              go_roundg (gk - 1)
              case rel => exact ⟨2, by have := HM.out; omega, rfl, hI.far hT (by decide) (by omega) (by omega) _ _, ctm_step (by omega) hT (ctm_b1 nonce m (by omega))⟩
              case measure => have := HM.out; omega
            · have r1 := hT.rule
              have f1 := hT.free
              have c1 := fA_at (n := 16) (i := 14) (fun j => if j < 12 then nonce j else if j < 12 + 2 then ctr nonce m j else 0#8) (by omega)
              go_wp2_with fail
              clear r1 f1 c1
              go_roundg (gk - 1)
              case rel => exact ⟨3, by have := HM.out; omega, rfl, hI.far hT (by decide) (by omega) (by omega) _ _, ctm_step (by omega) hT (ctm_b2 nonce m (by omega))⟩
              case measure => have := HM.out; omega
            · have r1 := hT.rule
              have f1 := hT.free
              have c1 := fA_at (n := 16) (i := 15) (fun j => if j < 12 then nonce j else if j < 12 + 3 then ctr nonce m j else 0#8) (by omega)
              go_wp2_with fail
              clear r1 f1 c1
              go_roundg (gk - 1)
              case rel => exact ⟨4, by have := HM.out; omega, rfl, hI.far hT (by decide) (by omega) (by omega) _ _, ctm_step (by omega) hT (ctm_b3 nonce m)⟩
              case measure => have := HM.out; omega
            · replace hT := hT.ofF (t := ctr nonce m) fun i hi => ctr_all nonce (fun _ => 0#8) i hi
              have hK := hI.bkey
              have hX := hI.box
              go_wp2_with (first | refine wpList_load_blk rfl 46 agg16 (.tmp 3) rfl rfl hK (fA_size _ _) ?_ | refine wpList_load_blk rfl 46 agg16 (.tmp 11) rfl rfl hT (fA_size _ _) ?_ | refine wpList_load_blk rfl 69 agg256 _ rfl rfl hX (fA_size _ _) ?_)
              refine (renc_any key (ctr nonce m) _).mono ?_
              rintro e w4 ⟨rfl, hb4⟩
              replace hI := hI.old hb4
              clear hK hX hb4 hT
              go_upto_region 20 with (refine wpList_store_blk rfl 46 agg16 (.tmp 15) _ (cells := fA 16 (enc key (ctr nonce m))) rfl rfl rfl (Blk.new _ _ _) (fA_size _ _) rfl (fA_one _ _) ?_)
              obtain ⟨Y, hY⟩ : ∃ Y, Y = w4.heap.size := ⟨_, rfl⟩
              have hXY : Xb < Y := by have := hI.box.lt; omega
              have hY0 := Blk.new w4 (fA 16 fun _ => 0#8) 46
              rw [← hY] at hY0 ⊢
              refine wp_forget (fun W0 => RsIn w H Xb key nonce l k oa oc W0 ∧ Blk W0 Y (fA 16 (enc key (ctr nonce m))) 46) ⟨(hI.old ((Below.refl _ _).alloc (Nat.le_refl _) _)).farRow hY0 (by decide) (by omega) (by omega) _, hY0.setRow _⟩ ?_
              clear hI hY0 hY
              rintro w5 ⟨hI, hY⟩
              go_loopg [9, 16] (min (k + 16) l.length - k) (Rs4 w H Xb Y m k key nonce l)
              case atStart => exact ⟨k, oa, oc, by have := HL.out; omega, by omega, rfl, rfl, hI, hY⟩
              case round =>
                clear hI hY
                obtain ⟨j, oa, oc, hf, hkj, rfl, rfl, hI, hY⟩ := hrel
                by_cases hj : j < len
                · have tj : decide ((j : Int) < (len : Int)) = true := by simp; omega
                  by_cases hj2 : j < k + 16
                  · have tj2 : decide ((j : Int) < (k : Int) + 16) = true := by simp; omega
                    have hjl : j < l.length := by rw [HL.out]; exact hj
                    have HF4 := Lib.hid hf
                    clear hf
                    obtain ⟨b, o, hab, hcell⟩ := (hl.below (HH.out ▸ hI.below)).at (by omega)
                    subst hab
                    have hc0 : w.cell? ⟨b, o + j, none⟩ = some (.int .u8 (B8 l[j].toBitVec)) := by
                      obtain ⟨b', o', e1, h1⟩ := hl j (by simpa using hjl)
                      cases e1
                      simp [bv] at h1
                      exact h1
                    have hbH : b < H := by rw [HH.out]; exact World.block_lt_of_cell? w _ hc0
                    have hc : wr.drew.cell? ⟨b, o + j, none⟩ = some (.int .u8 (B8 l[j].toBitVec)) := hcell j hjl
                    obtain ⟨d, hd⟩ : ∃ d, d = j - k := ⟨_, rfl⟩
                    have hd16 : d < 16 := by omega
                    have hdI : (d : Int) < 16 := by omega
                    have e1 : IntKind.i64.wrap ((j : Int) - (k : Int)) = (d : Int) := by rw [IntWalk.i64_in _ (by omega)]; omega
                    have hjI : (j : Int) < (len : Int) := by omega
                    have C1 : ∀ W, Rx H 5 wr.drew W → W.cell? ⟨b, o + j, none⟩ = some (.int .u8 (B8 l[j].toBitVec)) := fun W h => h.cell hbH hc
                    have C2 : ∀ W, Rx H 5 wr.drew W → W.cell? ⟨Y, d, none⟩ = some (.int .u8 (B8 (enc key (ctr nonce m) d))) := fun W h => (h.blk hY.drew (by decide)).atF hd16 rfl
                    have HD := Lib.hid hd
                    clear hd hc hcell hc0
                    go_wp2_with fail
                    refine wp_region_treeX H 5 (.step 0 (.step 1 (.step 2 (.step 3 (.step 4 (.step 5 (.step 6 (.step 7 (.step 8 (.step 9 (.step 10 (.step 11 (.step 12 (.step 13 .done)))))))))))))) (by kernel_rfl) (by kernel_rfl) (fun c a d v w h => by cases d <;> exact h) ?_
                    repeat (first | (refine tree_skip rfl (by rfl) ?_; simp only [Act.put, List.setIfInBounds_toArray, List.set]) | (refine tree_quiet (v := ?_) rfl rfl (by rfl) ?_ ?_; rotate_left; (intro W hW; go_simp); (try with_reducible rfl); simp only [Act.put, List.setIfInBounds_toArray, List.set]))
                    have hHs : H ≤ wr.heap.size := by have := hI.bkey.lt; omega
                    refine tree_loud rfl rfl (by rfl) (fun K hK => ?_); go_wp2_with fail
                    refine hK _ _ (Rx.alloc wr.drew hHs _) ?_
                    clear hK K
                    refine tree_loud rfl rfl (by rfl) (fun K hK => ?_)
                    refine wp_append_row (.tmp 70) (.tmp 81) 22 rfl bytesT5 rfl (hI.own.drew.alloc _) rfl (RowAt.new' _ _ _ _ (by simp)) (by rfl) (by exact all_one _ rfl) (by unfold maxLen; omega) (by omega) (by simp; omega) ?_
                    intro oa' oc' w7 hown7 hg7
                    refine hK _ _ (Rx.grown (hI.own.drew.alloc _) (Nat.le_refl _) (by simp; omega) hg7) ?_
                    clear hK K
                    repeat (first | (refine tree_skip rfl (by rfl) ?_; simp only [Act.put, List.setIfInBounds_toArray, List.set]) | (refine tree_quiet (v := ?_) rfl rfl (by rfl) ?_ ?_; rotate_left; (intro W hW; go_simp); (try with_reducible rfl); simp only [Act.put, List.setIfInBounds_toArray, List.set]))
                    refine tree_done ?_
                    go_wp2_with fail
                    go_roundg (gk - 1)
                    case rel =>
                      have hf := HF4.out
                      obtain ⟨hI', hY'⟩ := rs_next (cs := #[.int .u8 (B8 (l[j].toBitVec ^^^ enc key (ctr nonce m) d))]) (ty := 5) hjl hHs hI hY hown7 ⟨hg7.os, hg7.tape, hg7.output, hg7.size, hg7.block⟩ (by rw [ksb]; have := HA.out; have := HD.out; rw [show j / 16 = m by omega, show j % 16 = d by omega])
                      exact ⟨j + 1, oa', oc', by omega, by omega, by go_num, rfl, hI', hY'⟩
                    case measure => have hf := HF4.out; omega
                  · have tj2 : decide ((j : Int) < (k : Int) + 16) = false := by simp; omega
                    have hlen := HL.out
                    obtain rfl : j = k + 16 := by omega
                    clear hf
                    have HL' := Lib.hid hlen
                    clear hlen
                    go_wp2_with fail
                    go_roundg (g0 - 1)
                    case rel =>
                      have hf := HF.out
                      have hA := HA.out
                      have hlen := HL'.out
                      exact ⟨m + 1, k + 16, k + 16, oa, oc, by omega, by omega, by omega, by go_num, rfl, hI⟩
                    case measure => have hf := HF.out; have hA := HA.out; have hlen := HL'.out; omega
                · have tj : decide ((j : Int) < (len : Int)) = false := by simp; omega
                  have hlen := HL.out
                  obtain rfl : len = j := by omega
                  have hle : len ≤ k + 16 := by omega
                  clear hf
                  have HL' := Lib.hid hlen
                  clear hlen
                  go_wp2_with fail
                  go_roundg (g0 - 1)
                  case rel =>
                    have hf := HF.out
                    have hA := HA.out
                    have hlen := HL'.out
                    exact ⟨m + 1, k + 16, len, oa, oc, by omega, by omega, by omega, by go_num, rfl, hI⟩
                  case measure => have hf := HF.out; have hA := HA.out; have hlen := HL'.out; omega
    · have tk : decide ((A : Int) < (len : Int)) = false := by simp; omega
      obtain rfl : len = k := by omega
      clear hf hA hk
      have HL' := Lib.hid hlen
      clear hlen
      go_wp2_with fail
      go_ret2
      refine ⟨oa, oc, rfl, ?_, HH.out ▸ hI.below⟩
      rw [stm, HL'.out, ← HH.out]
      exact hI.own
end Go.Proofs.Ytiadhcipfgckoaa

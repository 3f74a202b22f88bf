/- HMAC in plain words; the walks through the key of a block. -/
import Derived.Test.YtiadhcipfgckoaaShaLaws
namespace Go.Proofs.Ytiadhcipfgckoaa
open Go.RowKit

/-! ### In plain words -/
def dgl (l : List UInt8) : List UInt8 := (List.range 32).map (dgb l)
def bkey (k : List UInt8) (i : Nat) : UInt8 := if 64 < k.length then (if i < 32 then dgb k i else 0) else k.getD i 0
def padl (f : Nat → UInt8) (x : UInt8) : List UInt8 := (List.range 64).map fun i => f i ^^^ x
def hin (k b : List UInt8) : List UInt8 := padl (bkey k) 54 ++ b
def hout (k b : List UInt8) : List UInt8 := padl (bkey k) 92 ++ dgl (hin k b)
/-- The sum of a key and bytes, as an array. -/
def mcA (k b : List UInt8) : Array Value := dgA (hout k b)
theorem dgl_length (l : List UInt8) : (dgl l).length = 32 := by simp [dgl]
theorem padl_length (f : Nat → UInt8) (x : UInt8) : (padl f x).length = 64 := by simp [padl]
theorem list_vA (l : List UInt8) : (l.map bv).toArray = vA l.length fun i => bv (l.getD i 0) := by
  refine vA_of (by simp) fun i hi => ?_
  simp [hi]
theorem vL_bv (n : Nat) (f : Nat → UInt8) : vL n (fun i => bv (f i)) = ((List.range n).map f).map bv := by simp [vL]

/-! ### Copies -/
theorem wpList_copy_nil {P : Program} {o : Oper} {a : Act} {w : World} {ops : Array Oper} {rest : List Oper} {Q : Exit → Act → World → Prop} (hgd : o.guard = none) (d s : Operand) (dT sT : TypeId)
    (ho : o.op = .call { callee := .builtin .copy, args := #[d, s], argTypes := #[dT, sT] }) {elem : TypeId} (hu : P.underlying dT = some (.slice elem)) (hsz : (P.info? elem).map (·.size) = some 1)
    {ad : Addr} {n c m : Nat} (hd : a.eval d = .slice (some ad) n c) (hs : a.eval s = .slice none 0 m)
    (h : wpList P ops Q rest (a.put o.dst (goInt 0)) w) : wpList P ops Q (o :: rest) a w := by
  refine wpList_plain hgd fun K hK => ?_
  have hrun : (Builtin.copy_ #[dT, sT] o.type #[.slice (some ad) n c, .slice none 0 m]).run P w = .ok (goInt 0) w := by
    simp [Builtin.copy_, run_underlying hu, sized_run hsz, Builtin.lenOf, Builtin.firstCells, storeCells]
  unfold Oper.wp
  simp [execOp, ho, resolve, invoke, builtin, hd, hs, hrun, Result.andThen]
  exact hK _ _ h

theorem agg64b : AggT Try.prog 59 64 := ⟨⟨_, Try.underlying59, rfl⟩, by kernel_rfl⟩
theorem zero64b : (Try.prog.info? 59).bind (·.zero) = some (.agg (vA 64 fun _ => .int .u8 0)) := by kernel_rfl
theorem len64b : Try.prog.arrayLen 59 = 64 := by kernel_rfl
theorem elem64b : Try.prog.elem 59 = 5 := by kernel_rfl
theorem arr64b : Try.prog.underlying 59 = some (.array (Try.prog.arrayLen 59) (Try.prog.elem 59)) := by rw [len64b, elem64b]; exact Try.underlying59
theorem all64b (b : Nat) (W : World) : (Instr.sliceAt 59 (.pointer (some ⟨b, 0, none⟩)) none none none).run Try.prog W = .ok (.slice (some ⟨b, 0, none⟩) 64 64) W := by
  rw [run_sliceAt_array_all W _ _ arr64b, elem64b, sized_run u8Info, len64b]
  simp [slicedAt]; rfl
theorem len32b : Try.prog.arrayLen 38 = 32 := by kernel_rfl
theorem elem32b : Try.prog.elem 38 = 5 := by kernel_rfl
theorem arr32b : Try.prog.underlying 38 = some (.array (Try.prog.arrayLen 38) (Try.prog.elem 38)) := by rw [len32b, elem32b]; exact Try.underlying38
theorem all32b (b : Nat) (W : World) : (Instr.sliceAt 38 (.pointer (some ⟨b, 0, none⟩)) none none none).run Try.prog W = .ok (.slice (some ⟨b, 0, none⟩) 32 32) W := by
  rw [run_sliceAt_array_all W _ _ arr32b, elem32b, sized_run u8Info, len32b]
  simp [slicedAt]; rfl
theorem dgl_at {w : World} {b : Nat} {l : List UInt8} (h : Blk w b (dgA l) 38) : BytesAt w (some ⟨b, 0, none⟩) (dgl l) := by
  have e : (dgl l).map bv = vL 32 fun i => bv (dgb l i) := by rw [vL_bv]; rfl
  unfold BytesAt
  rw [e]
  exact RowAt.mk fun j hj => by
    rw [vL_length] at hj
    rw [Nat.zero_add, h.rule, dgA, vA_at _ hj]
    simp [vL]
set_option maxHeartbeats 1000000 in
set_option maxRecDepth 100000 in
theorem mblock_any (l : List UInt8) (a : Option Addr) (len cap : Nat) (w : World) (hm : BytesAt w a l) (hl : l.length = len) (hmax : len < 140737488353000) :
    Calls Try.prog 46 #[.slice a len cap] w fun e w' => e = .returned (.agg (vA 64 fun i => bv (bkey l i))) ∧ Below w.heap.size w w' := by
  obtain ⟨H, hH⟩ : ∃ H, H = w.heap.size := ⟨_, rfl⟩
  rw [← hH]
  have HL := Lib.hid hl
  clear hl
  have hz1 := zero_run zero64b
  have q1 := all64b H
  have hB0 := Blk.new w (vA 64 fun _ => .int .u8 0) 59
  by_cases hbig : 64 < len
  · have tI : decide ((64 : Int) < (len : Int)) = true := by simp; omega
    have tt : decide (64 < len) = true := by simpa using hbig
    go_enter Try.func46, Try.ntmps46
    go_upto_region 1 with fail
    clear hz1
    rw [← hH] at hB0 ⊢
    refine wp_forget (fun W0 => Blk W0 H (vA 64 fun _ => .int .u8 0) 59 ∧ BytesAt W0 a l ∧ Below H w W0) ⟨hB0, hm.alloc _, by rw [hH]; (try unfold Kept); repeat (first | assumption | exact Below.refl _ _ | exact below_undrew (Below.refl _ _) | exact Below.mono (by assumption) (by first | (simp; done) | (simp; omega) | omega) | refine below_setRow ?_ (by first | (simp; done) | (simp; omega) | omega) _ | refine Below.setCell ?_ (by first | (simp; done) | (simp; omega) | omega) _ | refine Below.alloc ?_ (by first | (simp; done) | (simp; omega) | omega) _ | refine below_drewN ?_ _ | refine Below.drew ?_ | refine below_undrew ?_ | refine below_step ?_ (by assumption))⟩ ?_
    have HH := Lib.hid hH
    clear hB0 hm hH
    rintro w1 ⟨hB, hm, hb⟩
    go_wp2_with fail
    refine (sum_any l a len cap _ hm HL.out hmax).mono ?_
    rintro e w2 ⟨rfl, hb2⟩
    have hB2 := hB.old hb2
    have hlt := hB.lt
    have hb02 := hb.trans (hb2.mono (by omega))
    clear hm hB hb
    go_upto_region 3 with (refine wpList_store_blk rfl 38 agg32 (.tmp 3) _ (cells := dgA l) rfl rfl rfl (Blk.new _ _ _) (vA_size _ _) rfl (vA_one fun _ _ => rfl) ?_)
    obtain ⟨K, hK⟩ : ∃ K, K = w2.heap.size := ⟨_, rfl⟩
    have hK0 := Blk.new w2 (vA 32 fun _ => .int .u8 0) 38
    have hHK : H < K := by have := hb2.size; omega
    rw [← hK] at hK0 ⊢
    refine wp_forget (fun W0 => Blk W0 H (vA 64 fun _ => .int .u8 0) 59 ∧ Blk W0 K (dgA l) 38 ∧ Below H w W0) ⟨(hB2.alloc _).setRow_other _ _ (by omega), hK0.setRow _, below_setRow (hb02.alloc (by omega) _) (by omega) _⟩ ?_
    clear hB2 hK0 hK hb02 hb2 hlt
    rintro w3 ⟨hB, hKd, hb⟩
    have q2 := all32b K
    have hrow := RowAt.all (dgl_at hKd)
    have hsp : splice (vA 64 fun _ => Value.int .u8 0) 0 ((dgl l).map bv).toArray = vA 64 fun i => bv (bkey l i) := by
      rw [list_vA, vA_splice _ _ (by rw [dgl_length]; omega), dgl_length]
      refine vA_eq fun i hi => ?_
      have hbk : bkey l i = if i < 32 then dgb l i else 0 := by rw [bkey, if_pos (by rw [HL.out]; exact hbig)]
      rw [hbk]
      by_cases e : i < 32
      · rw [if_pos ⟨by omega, by omega⟩, if_pos e, List.getD_eq_getElem?_getD]
        simp [dgl, e]
      · rw [if_neg (by omega), if_neg e]; rfl
    have HSP := Lib.hid hsp
    clear hsp
    go_upto_region 5 with (refine wpList_copy_row rfl (.tmp 10) (.tmp 11) 22 22 rfl Try.underlying22 u8Info rfl rfl hB (cs := (dgl l).map bv) (by rw [List.length_map, dgl_length]; rfl) hrow (by rw [List.length_map, vA_size, dgl_length]; omega) (bv_one _) ?_)
    rw [HSP.out]
    refine wp_forget (fun W0 => Blk W0 H (vA 64 fun i => bv (bkey l i)) 59 ∧ Below H w W0) ⟨hB.setRow _, below_setRow hb (Nat.le_refl _) _⟩ ?_
    clear hB hb hrow hKd q2
    rintro w2 ⟨hB, hb⟩
    go_wp2_with (first | refine wpList_load_blk rfl 59 agg64b _ rfl rfl hB (vA_size _ _) ?_ | refine wpList_store_blk rfl 59 agg64b (.tmp 2) _ (cells := vA 64 fun i => bv (bkey l i)) rfl rfl rfl hB (vA_size _ _) (vA_size _ _) (vA_one fun _ _ => rfl) ?_)
    exact post_blk rfl agg64b rfl (hB.setRow _) (vA_size _ _) rfl ⟨rfl, below_setRow hb (Nat.le_refl _) _⟩
  · have tI : decide ((64 : Int) < (len : Int)) = false := by simp; omega
    have tt : decide (64 < len) = false := by simpa using hbig
    go_enter Try.func46, Try.ntmps46
    go_upto_region 1 with fail
    clear hz1
    rw [← hH] at hB0 ⊢
    refine wp_forget (fun W0 => Blk W0 H (vA 64 fun _ => .int .u8 0) 59 ∧ BytesAt W0 a l ∧ Below H w W0) ⟨hB0, hm.alloc _, by rw [hH]; (try unfold Kept); repeat (first | assumption | exact Below.refl _ _ | exact below_undrew (Below.refl _ _) | exact Below.mono (by assumption) (by first | (simp; done) | (simp; omega) | omega) | refine below_setRow ?_ (by first | (simp; done) | (simp; omega) | omega) _ | refine Below.setCell ?_ (by first | (simp; done) | (simp; omega) | omega) _ | refine Below.alloc ?_ (by first | (simp; done) | (simp; omega) | omega) _ | refine below_drewN ?_ _ | refine Below.drew ?_ | refine below_undrew ?_ | refine below_step ?_ (by assumption))⟩ ?_
    have HH := Lib.hid hH
    clear hB0 hm hH
    rintro w1 ⟨hB, hm, hb⟩
    cases a with
    | none =>
      have hl0 : l = [] := by
        cases hl : l with
        | nil => rfl
        | cons x r => subst hl; obtain ⟨b, o, he, _⟩ := hm 0 (by simp); cases he
      subst hl0
      obtain rfl : len = 0 := by have := HL.out; simpa using this.symm
      go_wp2_with (first | refine wpList_copy_nil rfl (.tmp 10) (.tmp 11) 22 22 rfl Try.underlying22 u8Info rfl rfl ?_ | refine wpList_load_blk rfl 59 agg64b _ rfl rfl hB (vA_size _ _) ?_ | refine wpList_store_blk rfl 59 agg64b (.tmp 2) _ (cells := vA 64 fun _ => .int .u8 0) rfl rfl rfl hB (vA_size _ _) (vA_size _ _) (vA_one fun _ _ => rfl) ?_)
      refine post_blk rfl agg64b rfl ((hB.setRow _).ofV (g := fun i => bv (bkey [] i)) fun i _ => ?_) (vA_size _ _) rfl ⟨rfl, below_setRow hb (Nat.le_refl _) _⟩
      simp [bkey, bv, U8]
    | some ad =>
      have hlen64 : l.length ≤ 64 := by have := HL.out; omega
      have hcs : (l.map bv).length = Nat.min len 64 := by
        rw [List.length_map, HL.out]; exact (Nat.min_eq_left (by omega)).symm
      have hrow := RowAt.all hm
      have hsp : splice (vA 64 fun _ => Value.int .u8 0) 0 (l.map bv).toArray = vA 64 fun i => bv (bkey l i) := by
        rw [list_vA, vA_splice _ _ (by omega)]
        refine vA_eq fun i hi => ?_
        have hbk : bkey l i = l.getD i 0 := by rw [bkey, if_neg (by omega)]
        rw [hbk]
        by_cases e : i < l.length
        · rw [if_pos ⟨by omega, by omega⟩]; rfl
        · rw [if_neg (by omega), List.getD_eq_getElem?_getD, List.getElem?_eq_none (by omega)]; rfl
      have HSP := Lib.hid hsp
      clear hsp hlen64
      go_upto_region 5 with (refine wpList_copy_row rfl (.tmp 10) (.tmp 11) 22 22 rfl Try.underlying22 u8Info rfl rfl hB (cs := l.map bv) hcs hrow (by rw [List.length_map, vA_size, HL.out]; omega) (bv_one _) ?_)
      rw [HSP.out]
      refine wp_forget (fun W0 => Blk W0 H (vA 64 fun i => bv (bkey l i)) 59 ∧ Below H w W0) ⟨hB.setRow _, below_setRow hb (Nat.le_refl _) _⟩ ?_
      clear hB hb hm hrow hcs
      rintro w2 ⟨hB, hb⟩
      go_wp2_with (first | refine wpList_load_blk rfl 59 agg64b _ rfl rfl hB (vA_size _ _) ?_ | refine wpList_store_blk rfl 59 agg64b (.tmp 2) _ (cells := vA 64 fun i => bv (bkey l i)) rfl rfl rfl hB (vA_size _ _) (vA_size _ _) (vA_one fun _ _ => rfl) ?_)
      exact post_blk rfl agg64b rfl (hB.setRow _) (vA_size _ _) rfl ⟨rfl, below_setRow hb (Nat.le_refl _) _⟩

/-! ### A key, each byte xor another one -/
def Wi1 (w : World) (H : Nat) (f : Nat → UInt8) (x : UInt8) (g : Nat) (i : Value) (wr : World) : Prop :=
  ∃ t : Nat, g + t = 64 ∧ i = .int .i64 (t : Int) ∧ Blk wr H (vA 64 fun j => bv (if j < t then f j ^^^ x else f j)) 59 ∧ Below H w wr
theorem xor8 (a b : UInt8) : U8 (⟨a.toBitVec ^^^ b.toBitVec⟩ : UInt8) = U8 (a ^^^ b) := rfl
attribute [local go_sem] bits_xor_u8 ofInt_U8
set_option maxHeartbeats 1000000 in
set_option maxRecDepth 100000 in
theorem mwith_any (f : Nat → UInt8) (x : UInt8) (z : Int) (hz : z = U8 x) (w : World) :
    Calls Try.prog 48 #[.agg (vA 64 fun i => bv (f i)), .int .u8 z] w fun e w' => ∃ g, e = .returned (.slice (some ⟨g, 0, none⟩) 64 64) ∧ w.heap.size ≤ g ∧ BytesAt w' (some ⟨g, 0, none⟩) (padl f x) ∧ Below w.heap.size w w' := by
  subst hz
  obtain ⟨H, hH⟩ : ∃ H, H = w.heap.size := ⟨_, rfl⟩
  rw [← hH]
  have q1 := all64b H
  have hB0 := Blk.new w (vA 64 fun i => bv (f i)) 59
  go_enter Try.func48, Try.ntmps48
  go_upto_region 1 with fail
  rw [← hH] at hB0 ⊢
  refine wp_forget (fun W0 => Blk W0 H (vA 64 fun i => bv (f i)) 59 ∧ Below H w W0) ⟨hB0, by rw [hH]; (try unfold Kept); repeat (first | assumption | exact Below.refl _ _ | exact below_undrew (Below.refl _ _) | exact Below.mono (by assumption) (by first | (simp; done) | (simp; omega) | omega) | refine below_setRow ?_ (by first | (simp; done) | (simp; omega) | omega) _ | refine Below.setCell ?_ (by first | (simp; done) | (simp; omega) | omega) _ | refine Below.alloc ?_ (by first | (simp; done) | (simp; omega) | omega) _ | refine below_drewN ?_ _ | refine Below.drew ?_ | refine below_undrew ?_ | refine below_step ?_ (by assumption))⟩ ?_
  have HH := Lib.hid hH
  clear hB0 hH
  rintro w1 ⟨hB, hb⟩
  go_wp2_with fail
  go_loopg [5, 6] 64 (fun g _ i wr => Wi1 w H f x g i wr)
  case atStart => exact ⟨0, by omega, rfl, hB.ofV fun j _ => by rw [if_neg (by omega)], hb⟩
  case round =>
    clear hB hb
    obtain ⟨t, hf, rfl, hB, hb⟩ := hrel
    by_cases ht : t < 64
    · have tt : decide ((t : Int) < 64) = true := by simp; omega
      have htI : (t : Int) < 64 := by omega
      have c0 : wr.cell? ⟨H, t, none⟩ = some (.int .u8 (U8 (f t))) := hB.atV ht (by rw [if_neg (by omega)]; rfl)
      have f0 := hB.free
      have HF := Lib.hid hf
      clear hf
      go_wp2_with fail
      clear c0 f0
      go_roundg (gk - 1)
      case rel =>
        have hf := HF.out
        refine ⟨t + 1, by omega, by go_num, (hB.setV ht _).ofV fun j _ => ?_, hb.setCell (by show H ≤ H; omega) _⟩
        by_cases e : j = t
        · subst e; rw [if_pos rfl, if_pos (by omega)]; rfl
        · rw [if_neg e]
          by_cases e2 : j < t
          · rw [if_pos e2, if_pos (by omega)]
          · rw [if_neg e2, if_neg (by omega)]
      case measure => have hf := HF.out; omega
    · obtain rfl : t = 64 := by omega
      have tt : decide (((64 : Nat) : Int) < 64) = false := by simp
      clear hf
      go_wp2_with fail
      go_ret
      refine ⟨H, rfl, Nat.le_refl _, ?_, hb⟩
      have hB2 := hB.ofV (g := fun j => bv (f j ^^^ x)) fun j hj => by rw [if_pos hj]
      refine RowAt.mk fun j hj => ?_
      rw [List.length_map, padl_length] at hj
      rw [Nat.zero_add, hB2.atV hj rfl]
      simp [padl]
end Go.Proofs.Ytiadhcipfgckoaa

/- Rows of bytes as functions, in memory; the walks through the steps of a block. -/
import Derived.Test.YtjkdgaehnachdaaAesNum
import Derived.Test.YtjkdgaehnachdaaAesPlain2
import Derived.Test.YtjkdgaehnachdaaLex
namespace Go.Proofs.Ytjkdgaehnachdaa
open Go.RowKit

/-! ### Rows of bytes -/
def fv (a : BitVec 8) : Value := .int .u8 (B8 a)
def fL (n : Nat) (s : Nat → BitVec 8) : List Value := (List.range n).map fun i => fv (s i)
def fA (n : Nat) (s : Nat → BitVec 8) : Array Value := (fL n s).toArray
theorem fL_length (n : Nat) (s : Nat → BitVec 8) : (fL n s).length = n := by simp [fL]
theorem fA_size (n : Nat) (s : Nat → BitVec 8) : (fA n s).size = n := by simp [fA, fL]
theorem fA_at {n i : Nat} (s : Nat → BitVec 8) (h : i < n) : (fA n s)[i]? = some (.int .u8 (B8 (s i))) := by simp [fA, fL, h, fv]
theorem fA_eq {n : Nat} {s t : Nat → BitVec 8} (h : ∀ i, i < n → s i = t i) : fA n s = fA n t := by
  unfold fA fL
  congr 1
  apply List.map_congr_left
  intro i hi
  rw [h i (List.mem_range.1 hi)]
theorem fA_set {n i : Nat} (s : Nat → BitVec 8) (v : BitVec 8) (_h : i < n) : (fA n s).setIfInBounds i (.int .u8 (B8 v)) = fA n (fun j => if j = i then v else s j) := by
  apply Array.ext_getElem?
  intro j
  by_cases hj : j < n
  · rw [fA_at _ hj]
    by_cases e : i = j
    · subst e
      simp [fA_size, hj]
    · rw [Array.getElem?_setIfInBounds_ne e, fA_at _ hj, if_neg (Ne.symm e)]
  · rw [Array.getElem?_eq_none (by simp [fA_size]; omega), Array.getElem?_eq_none (by simp [fA_size]; omega)]
theorem fA_one (n : Nat) (s : Nat → BitVec 8) : (fA n s).toList.all (·.oneCell') = true := by
  simp [fA, fL, fv, Value.oneCell']
theorem fA_tb (n : Nat) (s : Nat → BitVec 8) : fA n (tb n s) = fA n s := fA_eq fun _ h => tb_at s h
theorem fA_inj {n : Nat} {s t : Nat → BitVec 8} (h : fA n s = fA n t) : ∀ i, i < n → s i = t i := fun i hi => by
  have h1 := fA_at s hi
  rw [h, fA_at t hi] at h1
  simp only [Option.some.injEq, Value.int.injEq, true_and] at h1
  exact (B8_inj.1 h1).symm
theorem B8_toNat (a : BitVec 8) : (B8 a).toNat = a.toNat := by simp [B8]
theorem B8_lt (a : BitVec 8) : B8 a < 256 := by have := B8_hi a; omega

/-! ### Only one block turns -/
section
variable {a b c w : World} {g : Nat}
theorem only_trans {x : Option Nat} (h : a.grownBy b x) (k : b.grownBy c x) : a.grownBy c x :=
  ⟨k.os.trans h.os, k.tape.trans h.tape, k.output.trans h.output, Nat.le_trans h.size k.size, fun i hi hn => (k.block i (Nat.lt_of_lt_of_le hi h.size) hn).trans (h.block i hi hn)⟩
theorem only_drewN {x : Option Nat} (h : a.grownBy w x) (n : Nat) : a.grownBy (w.drewN n) x := ⟨h.os, h.tape, h.output, h.size, h.block⟩
theorem only_drew {x : Option Nat} (h : a.grownBy w x) : a.grownBy w.drew x := ⟨h.os, h.tape, h.output, h.size, h.block⟩
theorem only_undrew {x : Option Nat} (h : a.grownBy w x) : a.drew.grownBy w x := ⟨h.os, h.tape, h.output, h.size, h.block⟩
theorem only_alloc {x : Option Nat} (h : a.grownBy w x) (o : Obj) : a.grownBy (w.alloc o) x := only_trans h (World.grownBy_alloc w o x)
theorem only_setCell (h : a.grownBy w (some g)) (i : Nat) (u : Value) : a.grownBy (w.setCell ⟨g, i, none⟩ u) (some g) :=
  ⟨h.os, h.tape, h.output, by simpa [World.setCell] using h.size, fun k hk hne => (heap_setCell_other w ⟨g, i, none⟩ k u (by rintro rfl; exact hne rfl)).trans (h.block k hk hne)⟩
theorem only_setRow (h : a.grownBy w (some g)) (cs : Array Value) : a.grownBy (w.setRow g cs) (some g) :=
  ⟨h.os, h.tape, h.output, by simpa [World.setRow] using h.size, fun k hk hne => (Go.setRow_other w g k cs (by rintro rfl; exact hne rfl)).trans (h.block k hk hne)⟩
theorem only_new {x : Option Nat} (h : a.grownBy w x) {g' i : Nat} (hg : a.heap.size ≤ g') (u : Value) : a.grownBy (w.setCell ⟨g', i, none⟩ u) x :=
  ⟨h.os, h.tape, h.output, by simpa [World.setCell] using h.size, fun k hk hne => (heap_setCell_other w ⟨g', i, none⟩ k u (by show k ≠ g'; omega)).trans (h.block k hk hne)⟩
theorem only_newRow {x : Option Nat} (h : a.grownBy w x) {g' : Nat} (hg : a.heap.size ≤ g') (cs : Array Value) : a.grownBy (w.setRow g' cs) x :=
  ⟨h.os, h.tape, h.output, by simpa [World.setRow] using h.size, fun k hk hne => (Go.setRow_other w g' k cs (by omega)).trans (h.block k hk hne)⟩
theorem only_below {x : Option Nat} (h : Below a.heap.size a w) : a.grownBy w x := ⟨h.os, h.tape, h.output, h.size, fun i hi _ => h.block i hi⟩
theorem only_then {x : Option Nat} (h : a.grownBy w x) (k : Below w.heap.size w b) : a.grownBy b x := only_trans h (only_below k)
theorem below_only {B : Nat} (h : Below B a w) (hz : B ≤ w.heap.size) (k : w.grownBy b (some g)) (hg : B ≤ g) : Below B a b :=
  h.grown k hz (fun j hj => by cases hj; exact hg)
end

theorem step_fun (k : Nat) (new old : Nat → BitVec 8) : (fun j => if j = k then new k else if j < k then new j else old j) = fun j => if j < k + 1 then new j else old j := by
  funext j
  by_cases h : j = k
  · subst h; simp
  · by_cases h2 : j < k
    · simp [h, h2, show j < k + 1 by omega]
    · simp [h, h2, show ¬ j < k + 1 by omega]
theorem Blk.ofF {w : World} {g n : Nat} {s t : Nat → BitVec 8} {ty : TypeId} (h : Blk w g (fA n s) ty) (e : ∀ i, i < n → s i = t i) : Blk w g (fA n t) ty := by rw [← fA_eq e]; exact h
theorem Blk.setF {w : World} {g n k : Nat} {s : Nat → BitVec 8} {ty : TypeId} (h : Blk w g (fA n s) ty) (hk : k < n) (v : BitVec 8) : Blk (w.setCell ⟨g, k, none⟩ (.int .u8 (B8 v))) g (fA n fun j => if j = k then v else s j) ty := by
  have := h.set k (.int .u8 (B8 v))
  rwa [fA_set _ _ hk] at this
theorem Blk.atF {w : World} {g n k : Nat} {s : Nat → BitVec 8} {ty : TypeId} (h : Blk w g (fA n s) ty) (hk : k < n) {v : BitVec 8} (hv : s k = v) : w.cell? ⟨g, k, none⟩ = some (.int .u8 (B8 v)) := by rw [h.rule, fA_at _ hk, hv]
attribute [local go_sem] bits_xor_B8 bits_and_B8 bits_or_B8 ofInt_B8
theorem frm_int (k : Nat) : ((k : Int) + 4 * ((k : Int) % 4)) % 16 = (frm k : Int) := by simp only [frm]; omega
theorem frm_too : ∀ i, i < 16 → ∀ k, k < 16 → (i = frm k ↔ too i = k) := by decide
theorem step_too (k : Nat) (hk : k < 16) (s : Nat → BitVec 8) : ∀ i, i < 16 → (if i = frm k then s k else if too i < k then s (too i) else s i) = if too i < k + 1 then s (too i) else s i := fun i hi => by
  have h := frm_too i hi k hk
  by_cases e : i = frm k
  · have e2 := h.1 e
    rw [if_pos e, if_pos (by omega), e2]
  · have e2 : ¬ too i = k := fun q => e (h.2 q)
    rw [if_neg e]
    by_cases e3 : too i < k
    · rw [if_pos e3, if_pos (by omega)]
    · rw [if_neg e3, if_neg (by omega)]
theorem u8Info : (Try.prog.info? 5).map (·.size) = some 1 := by kernel_rfl
theorem agg16 : AggT Try.prog 27 16 := ⟨⟨_, Try.underlying27, rfl⟩, by kernel_rfl⟩
theorem agg4 : AggT Try.prog 49 4 := ⟨⟨_, Try.underlying49, rfl⟩, by kernel_rfl⟩

set_option maxHeartbeats 400000 in
set_option maxRecDepth 40000 in
theorem through_any (gb gc o : Nat) (s f : Nat → BitVec 8) (w : World) (hB : Blk w gb (fA 16 s) 27) (hne : gb ≠ gc)
    (hf : ∀ i, i < 256 → w.cell? ⟨gc, o + i, none⟩ = some (.int .u8 (B8 (f i)))) :
    Calls Try.prog 28 #[.pointer (some ⟨gb, 0, none⟩), .pointer (some ⟨gc, o, none⟩)] w fun e w' =>
      e = .returned (.tuple #[]) ∧ Blk w' gb (fA 16 (tb 16 fun j => f (s j).toNat)) 27 ∧ w.grownBy w' (some gb) := by
  have hgc : gc < w.heap.size := World.block_lt_of_cell? w _ (hf 0 (by omega))
  have HF := Lib.hid hf
  clear hf
  go_enter Try.func28, Try.ntmps28
  go_wp2_with fail
  go_loopw [7] (fun i wr => ∃ k : Nat, k ≤ 16 ∧ i = .int .i64 k ∧ Blk wr gb (fA 16 (fun j => if j < k then f (s j).toNat else s j)) 27 ∧ w.grownBy wr (some gb)) (fun i _ => 16 - (intOf i).toNat)
  case atStart => exact ⟨0, by omega, rfl, by simpa using hB, World.grownBy.refl _ _⟩
  case round =>
    obtain ⟨k, hk, rfl, hb, hg⟩ := hrel
    by_cases hlt : k < 16
    · have hx0 := B8_lo (s k)
      have hx1 := B8_lt (s k)
      have hx2 := B8_toNat (s k)
      have C1 : ∀ W, Old wr.drew W → W.cell? ⟨gb, k, none⟩ = some (.int .u8 (B8 (s k))) := fun W h => by rw [(hb.drew.old h).rule, fA_at _ hlt]; simp
      have hgc2 : gc < wr.heap.size := Nat.lt_of_lt_of_le hgc hg.size
      go_wp2_with fail
      refine wp_region_old (0 :: 1 :: 2 :: 3 :: 4 :: 5 :: []) (by kernel_rfl) (by kernel_rfl) (fun c a d v w h => by cases d <;> exact h) ?_
      repeat (first | (refine lex_skip rfl (by rfl) ?_; simp only [Act.put, List.setIfInBounds_toArray, List.set]) | (refine lex_quiet (v := ?_) rfl rfl (by rfl) ?_ ?_; rotate_left; (intro W hW; go_simp); (try with_reducible rfl); simp only [Act.put, List.setIfInBounds_toArray, List.set]))
      refine lex_nil ?_
      have C2 : ∀ W, Old wr.drew.drew W → W.cell? ⟨gc, o + (s k).toNat, none⟩ = some (.int .u8 (B8 (f (s k).toNat))) := fun W h => by
        rw [h.cell (p := ⟨gc, o + (s k).toNat, none⟩) hgc2]
        exact (hg.cell (HF.out _ (s k).isLt) (by simpa using hne.symm))
      go_wp2_with fail
      refine wp_region_treeR true Old Old.refl Old.trans (.step 0 (.step 1 (.step 2 (.step 3 (.step 4 (.step 5 (.step 6 (.step 7 (.step 8 (.step 9 .done)))))))))) (by kernel_rfl) (by kernel_rfl) (fun c a d v w h => by cases d <;> exact h) ?_
      repeat (first | (refine tree_skip rfl (by rfl) ?_; simp only [Act.put, List.setIfInBounds_toArray, List.set]) | (refine tree_quiet (v := ?_) rfl rfl (by rfl) ?_ ?_; rotate_left; (intro W hW; go_simp); (try with_reducible rfl); simp only [Act.put, List.setIfInBounds_toArray, List.set]))
      have hbd := hb.drew.drew
      have r2 := hbd.rule
      have f2 := hbd.free
      have ck := fA_at (fun j => if j < k then f (s j).toNat else s j) hlt
      refine tree_store rfl rfl (by rfl) (fun K hK => ?_); go_wp2_with fail; refine tree_done ?_
      clear r2 f2
      go_wp2_with fail
      go_roundw
      case rel =>
        refine ⟨k + 1, by omega, by go_num, ?_, only_setCell (only_drew (only_drew hg)) k _⟩
        exact (hbd.setF hlt (f (s k).toNat)).ofF fun i _ => congrFun (step_fun k (fun j => f (s j).toNat) s) i
      case measure => simp [intOf]; omega
    · go_wp2_with fail
      go_end0
      obtain rfl : k = 16 := by omega
      refine ⟨rfl, ?_, hg⟩
      rw [fA_tb]
      rwa [show fA 16 (fun j => if j < 16 then f (s j).toNat else s j) = fA 16 (fun j => f (s j).toNat) from fA_eq fun i h => if_pos h] at hb

/-! ### A round key put in -/
set_option maxHeartbeats 400000 in
set_option maxRecDepth 40000 in
theorem key_any (gb gc r : Nat) (s K : Nat → BitVec 8) (w : World) (hB : Blk w gb (fA 16 s) 27) (hne : gb ≠ gc) (hr : r < 11)
    (hf : ∀ i, i < 16 → w.cell? ⟨gc, 512 + r * 16 + i, none⟩ = some (.int .u8 (B8 (K i)))) :
    Calls Try.prog 25 #[.pointer (some ⟨gc, 0, none⟩), .pointer (some ⟨gb, 0, none⟩), .int .i64 (r : Int)] w fun e w' =>
      e = .returned (.tuple #[]) ∧ Blk w' gb (fA 16 (sx s K)) 27 ∧ w.grownBy w' (some gb) := by
  have hgc : gc < w.heap.size := World.block_lt_of_cell? w _ (hf 0 (by omega))
  have HF := Lib.hid hf
  clear hf
  have hr' : (r : Int) < 11 := by omega
  go_enter Try.func25, Try.ntmps25
  go_wp2_with fail
  go_loopw [7] (fun i wr => ∃ k : Nat, k ≤ 16 ∧ i = .int .i64 k ∧ Blk wr gb (fA 16 (fun j => if j < k then s j ^^^ K j else s j)) 27 ∧ w.grownBy wr (some gb)) (fun i _ => 16 - (intOf i).toNat)
  case atStart => exact ⟨0, by omega, rfl, by simpa using hB, World.grownBy.refl _ _⟩
  case round =>
    obtain ⟨k, hk, rfl, hb, hg⟩ := hrel
    by_cases hlt : k < 16
    · have C1 : ∀ W, Old wr.drew W → W.cell? ⟨gb, k, none⟩ = some (.int .u8 (B8 (s k))) := fun W h => (hb.drew.old h).atF hlt (by simp)
      have hgc2 : gc < wr.heap.size := Nat.lt_of_lt_of_le hgc hg.size
      have C2 : ∀ W, Old wr.drew W → W.cell? ⟨gc, 512 + r * 16 + k, none⟩ = some (.int .u8 (B8 (K k))) := fun W h => by
        rw [h.cell (p := ⟨gc, 512 + r * 16 + k, none⟩) hgc2]
        exact (hg.cell (HF.out _ hlt) (by simpa using hne.symm))
      go_wp2_with fail
      refine wp_region_treeR true Old Old.refl Old.trans (.step 0 (.step 1 (.step 2 (.step 3 (.step 4 (.step 5 (.step 6 (.step 7 (.step 8 (.step 9 (.step 10 (.step 11 (.step 12 (.step 13 (.step 14 (.step 15 (.step 16 .done))))))))))))))))) (by kernel_rfl) (by kernel_rfl) (fun c a d v w h => by cases d <;> exact h) ?_
      repeat (first | (refine tree_skip rfl (by rfl) ?_; simp only [Act.put, List.setIfInBounds_toArray, List.set]) | (refine tree_quiet (v := ?_) rfl rfl (by rfl) ?_ ?_; rotate_left; (intro W hW; go_simp); (try with_reducible rfl); simp only [Act.put, List.setIfInBounds_toArray, List.set]))
      have hbd := hb.drew
      have r2 := hbd.rule
      have f2 := hbd.free
      have ck := fA_at (fun j => if j < k then s j ^^^ K j else s j) hlt
      refine tree_store rfl rfl (by rfl) (fun K hK => ?_); go_wp2_with fail; refine tree_done ?_
      clear r2 f2
      go_wp2_with fail
      go_roundw
      case rel =>
        refine ⟨k + 1, by omega, by go_num, ?_, only_setCell (only_drew hg) k _⟩
        exact (hbd.setF hlt (s k ^^^ K k)).ofF fun i _ => congrFun (step_fun k (fun j => s j ^^^ K j) s) i
      case measure => simp [intOf]; omega
    · go_wp2_with fail
      go_end0
      obtain rfl : k = 16 := by omega
      exact ⟨rfl, hb.ofF fun i h => by rw [sx, tb_at _ h, if_pos h], hg⟩

/-! ### Rows turned -/
set_option maxHeartbeats 400000 in
set_option maxRecDepth 40000 in
theorem turn_forth (gb : Nat) (s : Nat → BitVec 8) (w : World) (hB : Blk w gb (fA 16 s) 27) :
    Calls Try.prog 27 #[.pointer (some ⟨gb, 0, none⟩), .bool false] w fun e w' =>
      e = .returned (.tuple #[]) ∧ Blk w' gb (fA 16 (trn s)) 27 ∧ w.grownBy w' (some gb) := by
  have hz := hB.lt
  go_enter Try.func27, Try.ntmps27
  go_wp2_with (first | refine wpList_load_blk rfl 27 agg16 _ rfl rfl hB (fA_size _ _) ?_ | refine wpList_store_blk rfl 27 agg16 (.tmp 4) _ rfl rfl rfl (Blk.new _ _ _) (fA_size _ _) rfl (fA_one _ _) ?_)
  refine wp_forget (fun W0 => Blk W0 w.heap.size (fA 16 s) 27 ∧ Blk W0 gb (fA 16 s) 27 ∧ w.grownBy W0 (some gb)) ⟨(Blk.new _ _ _).setRow _, (hB.alloc _).setRow_other _ _ (by omega), only_newRow (only_alloc (World.grownBy.refl _ _) _) (Nat.le_refl _) _⟩ ?_
  rintro w0 ⟨hW, hB0, hg0⟩
  obtain ⟨H, hH⟩ : ∃ H, H = w.heap.size := ⟨_, rfl⟩
  rw [← hH] at hW ⊢
  have hHg : H ≠ gb := by omega
  clear hB hz hH
  go_loopw [10] (fun i wr => ∃ k : Nat, k ≤ 16 ∧ i = .int .i64 k ∧ Blk wr H (fA 16 s) 27 ∧ Blk wr gb (fA 16 (fun j => if j < k then s (frm j) else s j)) 27 ∧ w.grownBy wr (some gb)) (fun i _ => 16 - (intOf i).toNat)
  case atStart => exact ⟨0, by omega, rfl, hW, by simpa using hB0, hg0⟩
  case round =>
    clear hW hB0 hg0
    obtain ⟨k, hk, rfl, hW, hb, hg⟩ := hrel
    by_cases hlt : k < 16
    · have hfr : frm k < 16 := (too_frm k hlt).2.2.1
      have hfi := frm_int k
      have hfr' : (frm k : Int) < 16 := by omega
      have C1 : ∀ W, Old wr.drew W → W.cell? ⟨H, frm k, none⟩ = some (.int .u8 (B8 (s (frm k)))) := fun W h => (hW.drew.old h).atF hfr rfl
      go_wp2_with fail
      refine wp_region_treeR true Old Old.refl Old.trans (.step 0 (.step 1 (.step 2 (.step 3 (.step 4 (.step 5 (.step 6 (.step 7 .done)))))))) (by kernel_rfl) (by kernel_rfl) (fun c a d v w h => by cases d <;> exact h) ?_
      repeat (first | (refine tree_skip rfl (by rfl) ?_; simp only [Act.put, List.setIfInBounds_toArray, List.set]) | (refine tree_quiet (v := ?_) rfl rfl (by rfl) ?_ ?_; rotate_left; (intro W hW; go_simp); (try with_reducible rfl); simp only [Act.put, List.setIfInBounds_toArray, List.set]))
      have hbd := hb.drew
      have r2 := hbd.rule
      have f2 := hbd.free
      have ck := fA_at (fun j => if j < k then s (frm j) else s j) hlt
      refine tree_store rfl rfl (by rfl) (fun K hK => ?_); go_wp2_with fail; refine tree_done ?_
      clear r2 f2
      go_wp2_with fail
      go_roundw
      case rel =>
        refine ⟨k + 1, by omega, by go_num, hW.drew.other _ _ hHg, ?_, only_setCell (only_drew hg) k _⟩
        exact (hbd.setF hlt (s (frm k))).ofF fun i _ => congrFun (step_fun k (fun j => s (frm j)) s) i
      case measure => simp [intOf]; omega
    · go_wp2_with fail
      go_end0
      obtain rfl : k = 16 := by omega
      exact ⟨rfl, hb.ofF fun i h => by rw [trn, tb_at _ h, if_pos h], hg⟩
set_option maxHeartbeats 400000 in
set_option maxRecDepth 40000 in
theorem turn_back (gb : Nat) (s : Nat → BitVec 8) (w : World) (hB : Blk w gb (fA 16 s) 27) :
    Calls Try.prog 27 #[.pointer (some ⟨gb, 0, none⟩), .bool true] w fun e w' =>
      e = .returned (.tuple #[]) ∧ Blk w' gb (fA 16 (nrt s)) 27 ∧ w.grownBy w' (some gb) := by
  have hz := hB.lt
  go_enter Try.func27, Try.ntmps27
  go_wp2_with (first | refine wpList_load_blk rfl 27 agg16 _ rfl rfl hB (fA_size _ _) ?_ | refine wpList_store_blk rfl 27 agg16 (.tmp 4) _ rfl rfl rfl (Blk.new _ _ _) (fA_size _ _) rfl (fA_one _ _) ?_)
  refine wp_forget (fun W0 => Blk W0 w.heap.size (fA 16 s) 27 ∧ Blk W0 gb (fA 16 s) 27 ∧ w.grownBy W0 (some gb)) ⟨(Blk.new _ _ _).setRow _, (hB.alloc _).setRow_other _ _ (by omega), only_newRow (only_alloc (World.grownBy.refl _ _) _) (Nat.le_refl _) _⟩ ?_
  rintro w0 ⟨hW, hB0, hg0⟩
  obtain ⟨H, hH⟩ : ∃ H, H = w.heap.size := ⟨_, rfl⟩
  rw [← hH] at hW ⊢
  have hHg : H ≠ gb := by omega
  clear hB hz hH
  go_loopw [10] (fun i wr => ∃ k : Nat, k ≤ 16 ∧ i = .int .i64 k ∧ Blk wr H (fA 16 s) 27 ∧ Blk wr gb (fA 16 (fun j => if too j < k then s (too j) else s j)) 27 ∧ w.grownBy wr (some gb)) (fun i _ => 16 - (intOf i).toNat)
  case atStart => exact ⟨0, by omega, rfl, hW, by simpa using hB0, hg0⟩
  case round =>
    clear hW hB0 hg0
    obtain ⟨k, hk, rfl, hW, hb, hg⟩ := hrel
    by_cases hlt : k < 16
    · have hfr : frm k < 16 := (too_frm k hlt).2.2.1
      have hfi := frm_int k
      have hfr' : (frm k : Int) < 16 := by omega
      have C1 : ∀ W, Old wr.drew W → W.cell? ⟨H, k, none⟩ = some (.int .u8 (B8 (s k))) := fun W h => (hW.drew.old h).atF hlt rfl
      go_wp2_with fail
      refine wp_region_treeR true Old Old.refl Old.trans (.step 0 (.step 1 (.step 2 (.step 3 (.step 4 (.step 5 (.step 6 (.step 7 .done)))))))) (by kernel_rfl) (by kernel_rfl) (fun c a d v w h => by cases d <;> exact h) ?_
      repeat (first | (refine tree_skip rfl (by rfl) ?_; simp only [Act.put, List.setIfInBounds_toArray, List.set]) | (refine tree_quiet (v := ?_) rfl rfl (by rfl) ?_ ?_; rotate_left; (intro W hW; go_simp); (try with_reducible rfl); simp only [Act.put, List.setIfInBounds_toArray, List.set]))
      have hbd := hb.drew
      have r2 := hbd.rule
      have f2 := hbd.free
      have ck := fA_at (fun j => if too j < k then s (too j) else s j) hfr
      refine tree_store rfl rfl (by rfl) (fun K hK => ?_); go_wp2_with fail; refine tree_done ?_
      clear r2 f2
      go_wp2_with fail
      go_roundw
      case rel =>
        refine ⟨k + 1, by omega, by go_num, hW.drew.other _ _ hHg, ?_, only_setCell (only_drew hg) (frm k) _⟩
        exact (hbd.setF hfr (s k)).ofF (step_too k hlt s)
      case measure => simp [intOf]; omega
    · go_wp2_with fail
      go_end0
      obtain rfl : k = 16 := by omega
      exact ⟨rfl, hb.ofF fun i h => by rw [nrt, tb_at _ h, if_pos (too_frm i h).2.2.2], hg⟩
end Go.Proofs.Ytjkdgaehnachdaa

/- A block encrypted by the program: the walk. -/
import Derived.Test.YtiadhcipfgckoaaAesMix
import Derived.Test.YtiadhcipfgckoaaAesReady
namespace Go.Proofs.Ytiadhcipfgckoaa
open Go.RowKit
attribute [local go_sem] bits_xor_B8 bits_and_B8 bits_or_B8 ofInt_B8

theorem tb_bx (s : Nat → BitVec 8) : (tb 16 fun j => bx (bn (s j).toNat)) = thr bx s := tb_eq fun j _ => by rw [bn_toNat]
theorem tb_un (s : Nat → BitVec 8) : (tb 16 fun j => un (bn (s j).toNat)) = thr un s := tb_eq fun j _ => by rw [bn_toNat]
theorem through_bx (gb gc : Nat) (s key : Nat → BitVec 8) (w : World) (hB : Blk w gb (fA 16 s) 46) (hC : Blk w gc (fA 688 (cph key)) 90) :
    Calls Try.prog 55 #[.pointer (some ⟨gb, 0, none⟩), .pointer (some ⟨gc, 0, none⟩)] w fun e w' =>
      e = .returned (.tuple #[]) ∧ Blk w' gb (fA 16 (thr bx s)) 46 ∧ w.grownBy w' (some gb) := by
  have := through_any gb gc 0 s (fun i => bx (bn i)) w hB (Blk.ne hB hC (by decide)) (fun i hi => by rw [Nat.zero_add]; exact hC.atF (by omega) (cph_box key i hi))
  rw [tb_bx] at this
  exact this
theorem through_un (gb gc : Nat) (s key : Nat → BitVec 8) (w : World) (hB : Blk w gb (fA 16 s) 46) (hC : Blk w gc (fA 688 (cph key)) 90) :
    Calls Try.prog 55 #[.pointer (some ⟨gb, 0, none⟩), .pointer (some ⟨gc, 256, none⟩)] w fun e w' =>
      e = .returned (.tuple #[]) ∧ Blk w' gb (fA 16 (thr un s)) 46 ∧ w.grownBy w' (some gb) := by
  have := through_any gb gc 256 s (fun i => un (bn i)) w hB (Blk.ne hB hC (by decide)) (fun i hi => hC.atF (by omega) (cph_un key i hi))
  rw [tb_un] at this
  exact this
theorem key_rk (gb gc r : Nat) (s key : Nat → BitVec 8) (w : World) (hr : r < 11) (hB : Blk w gb (fA 16 s) 46) (hC : Blk w gc (fA 688 (cph key)) 90) :
    Calls Try.prog 53 #[.pointer (some ⟨gc, 0, none⟩), .pointer (some ⟨gb, 0, none⟩), .int .i64 (r : Int)] w fun e w' =>
      e = .returned (.tuple #[]) ∧ Blk w' gb (fA 16 (sx s (rk key r))) 46 ∧ w.grownBy w' (some gb) :=
  key_any gb gc r s (rk key r) w hB (Blk.ne hB hC (by decide)) hr (fun i hi => hC.atF (by omega) (cph_key key r i hr hi))

set_option maxHeartbeats 400000 in
theorem step1_any (gb gc gp : Nat) (s key : Nat → BitVec 8) (w : World) (hB : Blk w gb (fA 16 s) 46) (hC : Blk w gc (fA 688 (cph key)) 90) (hP : w.cell? ⟨gp, 0, none⟩ = some (.pointer (some ⟨gc, 0, none⟩))) :
    Calls Try.prog 54 #[.pointer (some ⟨gb, 0, none⟩), .pointer (some ⟨gp, 0, none⟩)] w fun e w' =>
      e = .returned (.tuple #[]) ∧ Blk w' gb (fA 16 (thr bx s)) 46 ∧ w.grownBy w' (some gb) := by
  go_enter Try.func54, Try.ntmps54
  go_wp2_with (go_at_call 55; refine (through_bx gb gc s key _ hB hC).mono ?_; rintro e w' ⟨rfl, h1, h2⟩)
  go_end0
  exact ⟨rfl, h1, h2⟩
set_option maxHeartbeats 400000 in
theorem step2_any (gb : Nat) (s : Nat → BitVec 8) (w : World) (hB : Blk w gb (fA 16 s) 46) :
    Calls Try.prog 56 #[.pointer (some ⟨gb, 0, none⟩)] w fun e w' =>
      e = .returned (.tuple #[]) ∧ Blk w' gb (fA 16 (trn s)) 46 ∧ w.grownBy w' (some gb) := by
  go_enter Try.func56, Try.ntmps56
  go_wp2_with (go_at_call 57; refine (turn_forth gb s _ hB).mono ?_; rintro e w' ⟨rfl, h1, h2⟩)
  go_end0
  exact ⟨rfl, h1, h2⟩
set_option maxHeartbeats 400000 in
theorem step3_any (gb gr r : Nat) (s : Nat → BitVec 8) (w : World) (hB : Blk w gb (fA 16 s) 46) (hR : w.cell? ⟨gr, 0, none⟩ = some (.int .i64 (r : Int))) :
    Calls Try.prog 58 #[.pointer (some ⟨gr, 0, none⟩), .pointer (some ⟨gb, 0, none⟩)] w fun e w' =>
      e = .returned (.tuple #[]) ∧ Blk w' gb (fA 16 (if r < 10 then mx mE s else s)) 46 ∧ w.grownBy w' (some gb) := by
  by_cases h : r < 10
  · have t : decide ((r : Int) < 10) = true := by simp; omega
    rw [if_pos h]
    go_enter Try.func58, Try.ntmps58
    go_wp2_with (go_at_call 59; refine (mix_any gb mE s _ hB).mono ?_; rintro e w' ⟨rfl, h1, h2⟩)
    go_end0
    exact ⟨rfl, h1, h2⟩
  · have t : decide ((r : Int) < 10) = false := by simp; omega
    rw [if_neg h]
    go_enter Try.func58, Try.ntmps58
    go_wp2_with fail
    go_end0
    exact ⟨rfl, hB, World.grownBy.refl _ _⟩
set_option maxHeartbeats 400000 in
theorem step4_any (gb gc gp gr r : Nat) (s key : Nat → BitVec 8) (w : World) (hr : r < 11) (hB : Blk w gb (fA 16 s) 46) (hC : Blk w gc (fA 688 (cph key)) 90) (hP : w.cell? ⟨gp, 0, none⟩ = some (.pointer (some ⟨gc, 0, none⟩))) (hR : w.cell? ⟨gr, 0, none⟩ = some (.int .i64 (r : Int))) :
    Calls Try.prog 60 #[.pointer (some ⟨gp, 0, none⟩), .pointer (some ⟨gb, 0, none⟩), .pointer (some ⟨gr, 0, none⟩)] w fun e w' =>
      e = .returned (.tuple #[]) ∧ Blk w' gb (fA 16 (sx s (rk key r))) 46 ∧ w.grownBy w' (some gb) := by
  go_enter Try.func60, Try.ntmps60
  go_wp2_with (go_at_call 53; refine (key_rk gb gc r s key _ hr hB hC).mono ?_; rintro e w' ⟨rfl, h1, h2⟩)
  go_end0
  exact ⟨rfl, h1, h2⟩

/-- The block inside a round, behind so many of its four steps. -/
def ins (key : Nat → BitVec 8) (r : Nat) (s : Nat → BitVec 8) : Nat → Nat → BitVec 8
  | 0 => s
  | 1 => thr bx s
  | 2 => trn (thr bx s)
  | 3 => if r < 10 then mx mE (trn (thr bx s)) else trn (thr bx s)
  | _ => rnd key r s
structure Held (w : World) (H gc n R : Nat) (key t : Nat → BitVec 8) (wr : World) : Prop where
  pos : H + 3 ≤ R
  cell : Blk wr R #[.int .i64 (n : Int)] 3
  ptr : Blk wr H #[.pointer (some ⟨gc, 0, none⟩)] 65
  blk : Blk wr (H + 1) (fA 16 t) 46
  res : ∃ z : Array Value, z.size = 16 ∧ Blk wr (H + 2) z 46
  key : Blk wr gc (fA 688 (cph key)) 90
  bel : Below H w wr
theorem Held.step {w : World} {H gc n R : Nat} {key t u : Nat → BitVec 8} {wr w' : World} (h : Held w H gc n R key t wr) (hgc : gc < H) (hB : Blk w' (H + 1) (fA 16 u) 46) (hg : wr.grownBy w' (some (H + 1))) : Held w H gc n R key u w' := by
  obtain ⟨hp, hc, hq, hb, ⟨z, hz, hr⟩, hk, hl⟩ := h
  have hs : H ≤ wr.heap.size := by have := hc.lt; omega
  exact ⟨hp, hc.grown hg (by simp; omega), hq.grown hg (by simp), hB, ⟨z, hz, hr.grown hg (by simp)⟩, hk.grown hg (by simp; omega), below_only hl hs hg (by omega)⟩
def RoundRel (w : World) (H gc : Nat) (key s : Nat → BitVec 8) (f : Nat) (p : Value) (wr : World) : Prop :=
  ∃ n R : Nat, f + n = 11 ∧ 1 ≤ n ∧ p = .pointer (some ⟨R, 0, none⟩) ∧ Held w H gc n R key (encs key s (n - 1)) wr
def InsRel (w : World) (H gc n R : Nat) (key t : Nat → BitVec 8) (f : Nat) (i : Value) (wr : World) : Prop :=
  ∃ k : Nat, f + k = 4 ∧ i = .int .i64 (k : Int) ∧ Held w H gc n R key (ins key n t k) wr

theorem funcInfo : (Try.prog.info? 1).map (·.size) = some 1 := by kernel_rfl
set_option maxHeartbeats 2000000 in
set_option maxRecDepth 100000 in
theorem ablock_any (gc : Nat) (s key : Nat → BitVec 8) (w : World) (hC : Blk w gc (fA 688 (cph key)) 90) :
    Calls Try.prog 37 #[.pointer (some ⟨gc, 0, none⟩), .agg (fA 16 s)] w fun e w' =>
      e = .returned (.agg (fA 16 (enc key s))) ∧ Below w.heap.size w w' := by
  have hgc := hC.lt
  go_enter Try.func37, Try.ntmps37
  go_wp2_with fail
  refine (key_rk (w.heap.size + 1) gc 0 s key _ (by omega) ((Blk.new2' _ _ _ _).alloc _) (((hC.alloc _).alloc _).alloc _)).mono ?_
  rintro e w1 ⟨rfl, hB1, hg1⟩
  obtain ⟨H, hH⟩ : ∃ H, H = w.heap.size := ⟨_, rfl⟩
  have hc1 := (((hC.alloc _).alloc _).alloc _).grown hg1 (by simp; omega)
  have hp1 : Blk w1 w.heap.size #[.pointer (some ⟨gc, 0, none⟩)] 65 := (Blk.new3 w _ _ _ _).grown hg1 (by simp)
  have hz1 : ∃ z : Array Value, z.size = 16 ∧ Blk w1 (w.heap.size + 2) z 46 := ⟨_, rfl, (Blk.new3'' w #[.int .u8 0, .int .u8 0, .int .u8 0, .int .u8 0, .int .u8 0, .int .u8 0, .int .u8 0, .int .u8 0, .int .u8 0, .int .u8 0, .int .u8 0, .int .u8 0, .int .u8 0, .int .u8 0, .int .u8 0, .int .u8 0] _ _ _).grown hg1 (by simp)⟩
  have hb1 : Below w.heap.size w w1 := below_only ((((Below.refl w.heap.size w).alloc (Nat.le_refl _) _).alloc (by simp) _).alloc (by simp; omega) _) (by simp; omega) hg1 (by omega)
  have hs1 : w.heap.size + 3 ≤ w1.heap.size := by have := hg1.size; simp at this; omega
  clear hg1
  rw [← hH] at hB1 hp1 hz1 hb1 hs1 hgc ⊢
  have HH := Lib.hid hH
  clear hH
  go_wp2_with fail
  go_loopg [5] 10 (RoundRel w H gc key s)
  case atStart =>
    obtain ⟨z, hz, hr⟩ := hz1
    exact ⟨1, _, by omega, by omega, rfl, hs1, Blk.new _ _ _, hp1.alloc _, hB1.alloc _, ⟨z, hz, hr.alloc _⟩, hc1.alloc _, hb1.alloc (by omega) _⟩
  case round =>
    clear hB1 hp1 hz1 hb1 hs1 hc1
    obtain ⟨n, R, hf, hn1, rfl, hh⟩ := hrel
    have hcell := hh.cell.rule 0
    by_cases hn : n < 11
    · have tn : decide ((n : Int) ≤ 10) = true := by simp; omega
      obtain ⟨t, ht⟩ : ∃ t, t = encs key s (n - 1) := ⟨_, rfl⟩
      rw [← ht] at hh
      have HT := Lib.hid ht
      have HF := Lib.hid hf
      clear ht hf
      go_wp2_with fail
      clear hcell
      obtain ⟨g0, rfl⟩ : ∃ g : Nat, g = gk := ⟨_, rfl⟩
      go_loopg [19] 4 (InsRel w H gc n R key t)
      case atStart => exact ⟨0, by omega, rfl, hh⟩
      case round =>
        clear hh
        obtain ⟨k, hf, rfl, hh⟩ := hrel
        by_cases hk : k < 4
        · have hcs : k = 0 ∨ k = 1 ∨ k = 2 ∨ k = 3 := by omega
          have hptr : wr.cell? ⟨H, 0, none⟩ = some (.pointer (some ⟨gc, 0, none⟩)) := hh.ptr.cell rfl
          have hcell : wr.cell? ⟨R, 0, none⟩ = some (.int .i64 (n : Int)) := hh.cell.cell rfl
          have HHc := Lib.hid hptr
          have HHd := Lib.hid hcell
          clear hptr hcell
          rcases hcs with rfl | rfl | rfl | rfl
          · have hix : ∀ W : World, (Instr.index 100 (.agg #[Value.func (Fn.func 54) #[] #[.pointer (some ⟨H + 1, 0, none⟩), .pointer (some ⟨H, 0, none⟩)], Value.func (Fn.func 56) #[] #[.pointer (some ⟨H + 1, 0, none⟩)], Value.func (Fn.func 58) #[] #[.pointer (some ⟨R, 0, none⟩), .pointer (some ⟨H + 1, 0, none⟩)], Value.func (Fn.func 60) #[] #[.pointer (some ⟨H, 0, none⟩), .pointer (some ⟨H + 1, 0, none⟩), .pointer (some ⟨R, 0, none⟩)]]) (.int .i64 0)).run Try.prog W = .ok (Value.func (Fn.func 54) #[] #[.pointer (some ⟨H + 1, 0, none⟩), .pointer (some ⟨H, 0, none⟩)]) W := fun W => run_index_arr (P := Try.prog) (kk := .i64) Try.underlying100 Try.underlying1 rfl funcInfo W _ 0 _ rfl (by omega)
            go_wp2_with (go_at_call 54; refine (step1_any (H + 1) gc H (ins key n t 0) key _ hh.blk hh.key HHc.out).mono ?_; rintro e w' ⟨rfl, h1, h2⟩)
            go_roundg (gk - 1)
            case rel => exact ⟨1, by omega, rfl, hh.step hgc h1 h2⟩
            case measure => omega
          · have hix : ∀ W : World, (Instr.index 100 (.agg #[Value.func (Fn.func 54) #[] #[.pointer (some ⟨H + 1, 0, none⟩), .pointer (some ⟨H, 0, none⟩)], Value.func (Fn.func 56) #[] #[.pointer (some ⟨H + 1, 0, none⟩)], Value.func (Fn.func 58) #[] #[.pointer (some ⟨R, 0, none⟩), .pointer (some ⟨H + 1, 0, none⟩)], Value.func (Fn.func 60) #[] #[.pointer (some ⟨H, 0, none⟩), .pointer (some ⟨H + 1, 0, none⟩), .pointer (some ⟨R, 0, none⟩)]]) (.int .i64 1)).run Try.prog W = .ok (Value.func (Fn.func 56) #[] #[.pointer (some ⟨H + 1, 0, none⟩)]) W := fun W => run_index_arr (P := Try.prog) (kk := .i64) Try.underlying100 Try.underlying1 rfl funcInfo W _ 1 _ rfl (by omega)
            go_wp2_with (go_at_call 56; refine (step2_any (H + 1) (ins key n t 1) _ hh.blk).mono ?_; rintro e w' ⟨rfl, h1, h2⟩)
            go_roundg (gk - 1)
            case rel => exact ⟨2, by omega, rfl, hh.step hgc h1 h2⟩
            case measure => omega
          · have hix : ∀ W : World, (Instr.index 100 (.agg #[Value.func (Fn.func 54) #[] #[.pointer (some ⟨H + 1, 0, none⟩), .pointer (some ⟨H, 0, none⟩)], Value.func (Fn.func 56) #[] #[.pointer (some ⟨H + 1, 0, none⟩)], Value.func (Fn.func 58) #[] #[.pointer (some ⟨R, 0, none⟩), .pointer (some ⟨H + 1, 0, none⟩)], Value.func (Fn.func 60) #[] #[.pointer (some ⟨H, 0, none⟩), .pointer (some ⟨H + 1, 0, none⟩), .pointer (some ⟨R, 0, none⟩)]]) (.int .i64 2)).run Try.prog W = .ok (Value.func (Fn.func 58) #[] #[.pointer (some ⟨R, 0, none⟩), .pointer (some ⟨H + 1, 0, none⟩)]) W := fun W => run_index_arr (P := Try.prog) (kk := .i64) Try.underlying100 Try.underlying1 rfl funcInfo W _ 2 _ rfl (by omega)
            go_wp2_with (go_at_call 58; refine (step3_any (H + 1) R n (ins key n t 2) _ hh.blk HHd.out).mono ?_; rintro e w' ⟨rfl, h1, h2⟩)
            go_roundg (gk - 1)
            case rel => exact ⟨3, by omega, rfl, hh.step hgc h1 h2⟩
            case measure => omega
          · have hix : ∀ W : World, (Instr.index 100 (.agg #[Value.func (Fn.func 54) #[] #[.pointer (some ⟨H + 1, 0, none⟩), .pointer (some ⟨H, 0, none⟩)], Value.func (Fn.func 56) #[] #[.pointer (some ⟨H + 1, 0, none⟩)], Value.func (Fn.func 58) #[] #[.pointer (some ⟨R, 0, none⟩), .pointer (some ⟨H + 1, 0, none⟩)], Value.func (Fn.func 60) #[] #[.pointer (some ⟨H, 0, none⟩), .pointer (some ⟨H + 1, 0, none⟩), .pointer (some ⟨R, 0, none⟩)]]) (.int .i64 3)).run Try.prog W = .ok (Value.func (Fn.func 60) #[] #[.pointer (some ⟨H, 0, none⟩), .pointer (some ⟨H + 1, 0, none⟩), .pointer (some ⟨R, 0, none⟩)]) W := fun W => run_index_arr (P := Try.prog) (kk := .i64) Try.underlying100 Try.underlying1 rfl funcInfo W _ 3 _ rfl (by omega)
            go_wp2_with (go_at_call 60; refine (step4_any (H + 1) gc H R n (ins key n t 3) key _ hn hh.blk hh.key HHc.out HHd.out).mono ?_; rintro e w' ⟨rfl, h1, h2⟩)
            go_roundg (gk - 1)
            case rel => exact ⟨4, by omega, rfl, hh.step hgc h1 h2⟩
            case measure => omega
        · obtain rfl : k = 4 := by omega
          have hcell : wr.cell? ⟨R, 0, none⟩ = some (.int .i64 (n : Int)) := hh.cell.cell rfl
          obtain ⟨hp, hc, hq, hb, ⟨z, hz, hr⟩, hk, hl⟩ := hh
          have hs : R < wr.heap.size := hc.lt
          have hpo := Lib.hid hp
          clear hp
          go_wp2_with fail
          go_roundg (g0 - 1)
          case rel =>
            have hp := hpo.out
            have hf := HF.out
            refine ⟨n + 1, wr.heap.size, by omega, by omega, rfl, by omega, ?_, (hq.alloc _), ?_, ⟨z, hz, hr.alloc _⟩, hk.alloc _, hl.alloc (by omega) _⟩
            · rw [show (((n + 1 : Nat)) : Int) = (n : Int) + 1 by omega]
              exact Blk.new _ _ _
            · have e : ins key n t 4 = encs key s (n + 1 - 1) := by
                obtain ⟨m, rfl⟩ : ∃ m, n = m + 1 := ⟨n - 1, by omega⟩
                have := HT.out
                simp only [Nat.add_sub_cancel] at this ⊢
                rw [encs, ← this]; rfl
              rw [← e]
              exact hb.alloc _
          case measure => have hf := HF.out; omega
    · obtain rfl : n = 11 := by omega
      have tn : decide (((11 : Nat) : Int) ≤ 10) = false := by simp
      obtain ⟨hp, hc, hq, hb, ⟨z, hz, hr⟩, hk, hl⟩ := hh
      have hcell : wr.cell? ⟨R, 0, none⟩ = some (.int .i64 11) := hc.cell rfl
      clear hp hk
      go_wp2_with (first | refine wpList_load_blk rfl 46 agg16 _ rfl rfl hb (fA_size _ _) ?_ | refine wpList_store_blk rfl 46 agg16 (.tmp 4) _ (cells := fA 16 (encs key s (11 - 1))) rfl rfl rfl hr (fA_size _ _) hz (fA_one _ _) ?_)
      refine post_blk rfl agg16 rfl (hr.setRow _) (fA_size _ _) rfl ⟨rfl, ?_⟩
      rw [HH.out] at hl ⊢
      exact below_setRow hl (by omega) _
end Go.Proofs.Ytiadhcipfgckoaa

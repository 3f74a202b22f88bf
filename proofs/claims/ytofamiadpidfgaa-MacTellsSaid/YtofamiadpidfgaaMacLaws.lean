/- What the document says of two keyed sums; how long bytes are together. -/
import Derived.Test.YtofamiadpidfgaaMacSum
namespace Go.Proofs.Ytofamiadpidfgaa
open Go.RowKit

def jefe : List UInt8 := [74, 101, 102, 101]
def hiThere : List UInt8 := [72, 105, 32, 84, 104, 101, 114, 101]
def whatDo : List UInt8 := [119, 104, 97, 116, 32, 100, 111, 32, 121, 97, 32, 119, 97, 110, 116, 32, 102, 111, 114, 32, 110, 111, 116, 104, 105, 110, 103, 63]
def twl (n : Nat) : List UInt8 := List.replicate n 11
def mcb (k b : List UInt8) (i : Nat) : UInt8 := dgb (hout k b) i
theorem hi_vals : (mcb (twl 20) hiThere 0, mcb (twl 20) hiThere 1, mcb (twl 20) hiThere 31) = (0xb0, 0x34, 0xf7) := by decide +kernel
theorem je_vals : (mcb jefe whatDo 0, mcb jefe whatDo 1, mcb jefe whatDo 31) = (0x5b, 0xdc, 0x43) := by decide +kernel
def Tw1 (w : World) (f : Nat) (v i : Value) (wr : World) : Prop :=
  ∃ (t : Nat) (a : Option Addr) (c : Nat), f + t = 20 ∧ i = .int .i64 (t : Int) ∧ v = .slice a t c ∧ Own wr w.heap.size 5 1 a t c ((twl t).map bv) ∧ Below w.heap.size w wr
set_option maxHeartbeats 400000 in
set_option maxRecDepth 40000 in
theorem twenty_any (w : World) : Calls Try.prog 19 #[] w fun e w' => ∃ a c, e = .returned (.slice a 20 c) ∧ BytesAt w' a (twl 20) ∧ Below w.heap.size w w' := by
  go_enter Try.func19, Try.ntmps19
  go_wp2_with fail
  go_loopg [1, 2] 20 (Tw1 w)
  case atStart => exact ⟨0, none, 0, by omega, rfl, rfl, Own.nil _ _ _ _, Below.refl _ _⟩
  case round =>
    obtain ⟨t, a, c, hf, rfl, rfl, ho, hb⟩ := hrel
    by_cases ht : t < 20
    · have tt : decide ((t : Int) < 20) = true := by simp; omega
      have HF := Lib.hid hf
      have hs := hb.size
      clear hf
      go_wp2_with (at_builtin; refine wpList_append_row rfl (.tmp 7) (.tmp 8) 22 rfl bytesT3 rfl (ho.alloc _) rfl (RowAt.new' _ _ _ _ (by simp)) (by rfl) (by exact all_one _ rfl) (by unfold maxLen; omega) (by omega) (by simp; omega) ?_)
      intro a4 c4 w4 own4 hg4
      have hb4 := (ho.alloc (.cells #[Value.int .u8 11] 5)).grown (hb.alloc hs _) (Nat.le_refl _) hg4 (by simp; omega)
      clear hg4
      go_wp2_with fail
      go_roundg (gk - 1)
      case rel =>
        have hf := HF.out
        refine ⟨t + 1, a4, c4, by omega, by go_num, rfl, ?_, hb4⟩
        rw [twl, List.replicate_succ', List.map_append]; exact own4
      case measure => have hf := HF.out; omega
    · obtain rfl : t = 20 := by omega
      have tt : decide (((20 : Nat) : Int) < 20) = false := by simp
      clear hf
      go_wp2_with fail
      go_ret
      exact ⟨a, c, rfl, ho.row, hb⟩
set_option maxHeartbeats 1000000 in
set_option maxRecDepth 40000 in
theorem mac_wakes (w : World) : Calls Try.prog 7 #[] w fun e w' => e = .returned (.bool true) ∧ Below w.heap.size w w' := by
  have kc := fun (w : World) (C : Array Value) (n c : Nat) => Lib.run_convert_bytes_const (P := Try.prog) w 22 5 C n c Try.underlying22 Try.underlying5
  go_enter Try.func7, Try.ntmps7
  go_wp2_with fail
  refine (twenty_any _).mono ?_
  rintro e w1 ⟨a, c, rfl, htw, hb1⟩
  go_wp2_with fail
  have hn1 := BytesAt.new w1 #[.int .u8 72, .int .u8 105, .int .u8 32, .int .u8 84, .int .u8 104, .int .u8 101, .int .u8 114, .int .u8 101] 5 (8, 9) hiThere rfl
  refine (mac_any (twl 20) hiThere a 20 c _ 8 8 _ (htw.alloc _) rfl (by omega) hn1 rfl (by omega)).mono ?_
  rintro e w2 ⟨rfl, hb2⟩
  have hs1 := hb1.size
  have hb02 := below_step hb1 (((Below.refl w1.heap.size w1).alloc (Nat.le_refl _) _).trans (hb2.mono (by simp)))
  clear hb1 hb2 htw hn1 kc
  go_upto_region 2 with (refine wpList_store_blk rfl 30 agg32 (.tmp 1) _ (cells := mcA (twl 20) hiThere) rfl rfl rfl (Blk.new _ _ _) (vA_size _ _) rfl (vA_one fun _ _ => rfl) ?_)
  have hS0 := Blk.new w2 (vA 32 fun _ => .int .u8 0) 30
  obtain ⟨S, hS⟩ : ∃ S, S = w2.heap.size := ⟨_, rfl⟩
  rw [← hS] at hS0 ⊢
  have hs2 := hb02.size
  refine wp_forget (fun W0 => Blk W0 S (mcA (twl 20) hiThere) 30 ∧ Below w.heap.size w W0) ⟨hS0.setRow _, below_setRow (hb02.alloc (by omega) _) (by omega) _⟩ ?_
  clear hS0 hS hb02 hs1 hs2
  rintro w3 ⟨hS, hb⟩
  have kc := fun (w : World) (C : Array Value) (n c : Nat) => Lib.run_convert_bytes_const (P := Try.prog) w 22 5 C n c Try.underlying22 Try.underlying5
  have kc2 : ∀ (w : World) (o : Obj) (C : Array Value) (n c : Nat), (convert 22 22 (.slice (some ⟨w.heap.size + 1, 0, none⟩) n c)).run Try.prog ((w.alloc o).alloc (.cells C 5)) = .ok (.slice (some ⟨w.heap.size + 1, 0, none⟩) n c) ((w.alloc o).alloc (.cells C 5 (C.size, C.size + 1))) := fun w o C n c => by
    have := kc (w.alloc o) C n c
    simpa using this
  go_wp2_with fail
  have hn1 := (BytesAt.new w3 #[.int .u8 74, .int .u8 101, .int .u8 102, .int .u8 101] 5 (4, 5) jefe rfl).alloc (.cells #[.int .u8 119, .int .u8 104, .int .u8 97, .int .u8 116, .int .u8 32, .int .u8 100, .int .u8 111, .int .u8 32, .int .u8 121, .int .u8 97, .int .u8 32, .int .u8 119, .int .u8 97, .int .u8 110, .int .u8 116, .int .u8 32, .int .u8 102, .int .u8 111, .int .u8 114, .int .u8 32, .int .u8 110, .int .u8 111, .int .u8 116, .int .u8 104, .int .u8 105, .int .u8 110, .int .u8 103, .int .u8 63] 5 (28, 29))
  have hn2 := BytesAt.new (w3.alloc (.cells #[.int .u8 74, .int .u8 101, .int .u8 102, .int .u8 101] 5 (4, 5))) #[.int .u8 119, .int .u8 104, .int .u8 97, .int .u8 116, .int .u8 32, .int .u8 100, .int .u8 111, .int .u8 32, .int .u8 121, .int .u8 97, .int .u8 32, .int .u8 119, .int .u8 97, .int .u8 110, .int .u8 116, .int .u8 32, .int .u8 102, .int .u8 111, .int .u8 114, .int .u8 32, .int .u8 110, .int .u8 111, .int .u8 116, .int .u8 104, .int .u8 105, .int .u8 110, .int .u8 103, .int .u8 63] 5 (28, 29) whatDo rfl
  simp only [World.size_alloc] at hn2
  refine (mac_any jefe whatDo _ 4 4 _ 28 28 _ hn1 rfl (by omega) hn2 rfl (by omega)).mono ?_
  rintro e w4 ⟨rfl, hb4⟩
  have hs3 := hb.size
  have hSl := hS.lt
  have hb04 := ((hb.alloc hs3 _).alloc (by simp; omega) _).trans (hb4.mono (by simp; omega))
  have hS4 := ((hS.alloc _).alloc _).old hb4
  clear hb4 hn1 hn2 kc kc2 hb hS hs3
  go_upto_region 3 with (refine wpList_store_blk rfl 30 agg32 (.tmp 2) _ (cells := mcA jefe whatDo) rfl rfl rfl (Blk.new _ _ _) (vA_size _ _) rfl (vA_one fun _ _ => rfl) ?_)
  have hT0 := Blk.new w4 (vA 32 fun _ => .int .u8 0) 30
  obtain ⟨T, hT⟩ : ∃ T, T = w4.heap.size := ⟨_, rfl⟩
  have hST : S < T := by have := hS4.lt; omega
  rw [← hT] at hT0 ⊢
  have hs4 := hb04.size
  refine wp_forget (fun W0 => Blk W0 S (mcA (twl 20) hiThere) 30 ∧ Blk W0 T (mcA jefe whatDo) 30 ∧ Below w.heap.size w W0) ⟨(hS4.alloc _).setRow_other _ _ (by omega), hT0.setRow _, below_setRow (hb04.alloc (by omega) _) (by omega) _⟩ ?_
  clear hS4 hT0 hT hb04 hs4 hSl
  rintro w5 ⟨hS, hT, hb⟩
  have v1 := hi_vals
  have v2 := je_vals
  simp only [Prod.mk.injEq] at v1 v2
  have c1 : w5.cell? ⟨S, 0, none⟩ = some (.int .u8 176) := hS.atV (by omega) (by show bv (mcb (twl 20) hiThere 0) = _; rw [v1.1]; rfl)
  have c2 : w5.cell? ⟨S, 1, none⟩ = some (.int .u8 52) := hS.atV (by omega) (by show bv (mcb (twl 20) hiThere 1) = _; rw [v1.2.1]; rfl)
  have c3 : w5.cell? ⟨S, 31, none⟩ = some (.int .u8 247) := hS.atV (by omega) (by show bv (mcb (twl 20) hiThere 31) = _; rw [v1.2.2]; rfl)
  have d1 : w5.cell? ⟨T, 0, none⟩ = some (.int .u8 91) := hT.atV (by omega) (by show bv (mcb jefe whatDo 0) = _; rw [v2.1]; rfl)
  have d2 : w5.cell? ⟨T, 1, none⟩ = some (.int .u8 220) := hT.atV (by omega) (by show bv (mcb jefe whatDo 1) = _; rw [v2.2.1]; rfl)
  have d3 : w5.cell? ⟨T, 31, none⟩ = some (.int .u8 67) := hT.atV (by omega) (by show bv (mcb jefe whatDo 31) = _; rw [v2.2.2]; rfl)
  clear v1 v2 hS hT
  go_wp2_with fail
  go_ret
  exact ⟨rfl, hb⟩
end Go.Proofs.Ytofamiadpidfgaa

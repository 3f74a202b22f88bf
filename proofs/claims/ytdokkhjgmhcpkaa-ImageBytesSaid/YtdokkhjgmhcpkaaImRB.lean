/- The document's bytes of a state, of an action: a number, numbers, a truth. -/
import Derived.Test.YtdokkhjgmhcpkaaImWState
import Derived.Test.YtdokkhjgmhcpkaaRx
import Derived.Test.YtdokkhjgmhcpkaaView
namespace Go.Proofs.Ytdokkhjgmhcpkaa
open Go.RowKit
set_option linter.unusedVariables false
set_option linter.unusedSimpArgs false
set_option maxRecDepth 20000

def Eight8 (w : World) (v : Int) (f : Nat) (v3 v4 : Value) (wr : World) : Prop :=
  ∃ (k : Nat) (a : Option Addr) (c : Nat), k + f = 8 ∧ v4 = .int .i64 (k : Int) ∧ v3 = .slice a k c ∧ Own wr w.heap.size 5 1 a k c (((be8 v).take k).map bv) ∧ Below w.heap.size w wr
set_option maxHeartbeats 2000000 in
theorem eight_any (v : Int) (w : World) : Calls Try.prog 54 #[.int .u64 (IntKind.u64.wrap v)] w fun e w' => ∃ a c, e = .returned (.slice a 8 c) ∧ Own w' w.heap.size 5 1 a 8 c ((be8 v).map bv) ∧ Below w.heap.size w w' := by
  go_enter Try.func54, Try.ntmps54
  go_wp2_with fail
  go_loopg [3, 4] 8 (Eight8 w v)
  case atStart => exact ⟨0, none, 0, rfl, rfl, rfl, Own.nil _ _ _ _, Below.refl _ _⟩
  case round =>
    obtain ⟨k, a, c, hk, rfl, rfl, hown, hb⟩ := hrel
    have hz := hb.size
    by_cases hlt : k < 8
    · have u0 : decide ((k : Int) < 8) = true := by simp; omega
      have v1 : IntKind.i64.wrap (8 * (k : Int)) = 8 * (k : Int) := IntWalk.i64_in _ (by omega)
      have v2 : IntKind.i64.wrap (56 - 8 * (k : Int)) = 56 - 8 * (k : Int) := IntWalk.i64_in _ (by omega)
      have v3 : (0 : Int) ≤ 56 - 8 * (k : Int) := by omega
      have v4 : (56 - 8 * (k : Int)).toNat = 56 - 8 * k := by omega
      have vb : IntKind.u64.wrap v / 2 ^ (56 - 8 * k) % 256 = U8 ⟨((BitVec.ofInt 64 v) >>> (56 - 8 * k)).setWidth 8⟩ := be8_byte v _
      have HVB := Lib.hid vb
      clear vb
      have HT := Lib.hid (be8_take v k hlt)
      have hA := hown.alloc (.cells #[.int .u8 (IntKind.u64.wrap v / 2 ^ (56 - 8 * k) % 256)] 5)
      go_wp2_with (at_builtin; refine wpList_append_row rfl _ _ 32 rfl bytesT' rfl hA rfl (RowAt.new' _ _ _ _ rfl) (by rfl) (by exact all_one _ rfl) (by unfold maxLen; omega) (by omega) (by simp; omega) ?_)
      intro a2 c2 w2 hown2 hg2
      have hb2 := hA.grown (hb.alloc hz _) (Nat.le_refl _) hg2 (by simp; omega)
      clear v1 v2 v3 v4
      go_wp2_with fail
      go_roundg (gk - 1)
      case measure => omega
      case rel =>
        refine ⟨k + 1, a2, c2, by omega, by go_num, rfl, ?_, hb2⟩
        rw [HT.out, List.map_append]
        rw [HVB.out] at hown2
        simpa [bv] using hown2
    · have hk8 : k = 8 := by omega
      subst hk8
      rw [List.take_of_length_le (by rw [be8_length]; omega)] at hown
      go_wp2_with fail
      go_ret
      exact ⟨a, c, rfl, hown, hb⟩
/-- Bytes that the call's own row has then. -/
def OutB (B : Nat) (w : World) (bs : List UInt8) (e : Ending) (w' : World) : Prop := ∃ a c, e = .returned (.slice a bs.length c) ∧ Own w' B 5 1 a bs.length c (bs.map bv) ∧ Rx B 5 w w'
set_option maxHeartbeats 2000000 in
theorem rnum_any (w : World) (B : Nat) (a : Option Addr) (n c : Nat) (bs : List UInt8) (v : Int) (hown : Own w B 5 1 a n c (bs.map bv)) (hn : bs.length = n) (hB : B ≤ w.heap.size) (hz : n < 100000000) :
    Calls Try.prog 36 #[.slice a n c, .int .i64 v] w (OutB B w (bs ++ be8 v)) := by
  have HN := Lib.hid hn
  clear hn
  have ce := eight_any v w
  go_enter Try.func36, Try.ntmps36
  go_wp2_with fail
  refine ce.mono ?_
  clear ce
  rintro e w1 ⟨a1, c1, rfl, hown1, hb1⟩
  have ho := hown.old hb1
  have hB1 := Nat.le_trans hB hb1.size
  go_wp2_with (at_builtin; refine wpList_append_row rfl _ _ 32 rfl bytesT' rfl ho rfl hown1.row (by rw [List.length_map, be8_length]) (bv_one _) (by unfold maxLen; omega) (by omega) hB1 ?_)
  intro a2 c2 w2 hown2 hg2
  have hr : Rx B 5 w w2 := Rx.trans _ _ _ (Rx.old hb1 hB) (Rx.grown ho (Nat.le_refl _) hB1 hg2)
  have hle : (bs ++ be8 v).length = n + 8 := by rw [List.length_append, be8_length, HN.out]
  have HLE := Lib.hid hle
  clear hle
  go_wp2_with fail
  go_ret
  refine ⟨a2, c2, by (rw [HLE.out]; first | done | rfl | simp), ?_, hr⟩
  rw [HLE.out, List.map_append]
  exact hown2
set_option maxHeartbeats 2000000 in
theorem rtruth_any (w : World) (B : Nat) (a : Option Addr) (n c : Nat) (bs : List UInt8) (v : Bool) (hown : Own w B 5 1 a n c (bs.map bv)) (hn : bs.length = n) (hB : B ≤ w.heap.size) (hz : n < 100000000) :
    Calls Try.prog 37 #[.slice a n c, .bool v] w (OutB B w (bs ++ tr1 v)) := by
  have HN := Lib.hid hn
  clear hn
  have hle : (bs ++ tr1 v).length = n + 1 := by rw [List.length_append, tr1_len, HN.out]
  have HLE := Lib.hid hle
  clear hle
  cases v with
  | true =>
    have hA := hown.alloc (.cells #[.int .u8 1] 5)
    go_enter Try.func37, Try.ntmps37
    go_wp2_with (at_builtin; refine wpList_append_row rfl _ _ 32 rfl bytesT' rfl hA rfl (RowAt.new' _ _ _ _ rfl) (by rfl) (by exact all_one _ rfl) (by unfold maxLen; omega) (by omega) (by simp; omega) ?_)
    intro a2 c2 w2 hown2 hg2
    have hr : Rx B 5 w w2 := Rx.trans _ _ _ (Rx.alloc w hB _) (Rx.grown hA (Nat.le_refl _) (by simp; omega) hg2)
    go_wp2_with fail
    go_ret
    refine ⟨a2, c2, by (rw [HLE.out]; first | done | rfl | simp), ?_, hr⟩
    rw [HLE.out, List.map_append]
    exact hown2
  | false =>
    have hA := hown.alloc (.cells #[.int .u8 0] 5)
    go_enter Try.func37, Try.ntmps37
    go_wp2_with (at_builtin; refine wpList_append_row rfl _ _ 32 rfl bytesT' rfl hA rfl (RowAt.new' _ _ _ _ rfl) (by rfl) (by exact all_one _ rfl) (by unfold maxLen; omega) (by omega) (by simp; omega) ?_)
    intro a2 c2 w2 hown2 hg2
    have hr : Rx B 5 w w2 := Rx.trans _ _ _ (Rx.alloc w hB _) (Rx.grown hA (Nat.le_refl _) (by simp; omega) hg2)
    go_wp2_with fail
    go_ret
    refine ⟨a2, c2, by (rw [HLE.out]; first | done | rfl | simp), ?_, hr⟩
    rw [HLE.out, List.map_append]
    exact hown2
def NumsB (w : World) (B : Nat) (bs : List UInt8) (l : List Int) (f : Nat) (v0 v5 : Value) (wr : World) : Prop :=
  ∃ (k : Nat) (a : Option Addr) (c : Nat) (cs : List UInt8), k + f = l.length ∧ v5 = .int .i64 (k : Int) ∧ v0 = .slice a cs.length c ∧ Hid (cs = bs ++ (be8 l.length ++ (l.take k).flatMap be8)) ∧ Own wr B 5 1 a cs.length c (cs.map bv) ∧ Rx B 5 w wr
set_option maxHeartbeats 2000000 in
theorem rnums_any (w : World) (B : Nat) (a : Option Addr) (n c : Nat) (bs : List UInt8) (s : Sl) (l : List Int) (hown : Own w B 5 1 a n c (bs.map bv)) (hn : bs.length = n) (hB : B ≤ w.heap.size) (hl : Ints w s l) (hi : InB B s.a s.n) (hz : n + 8 * s.n + 100 < 100000000) :
    Calls Try.prog 38 #[.slice a n c, .slice s.a s.n s.c] w (OutB B w (bs ++ encL l)) := by
  have HL := Lib.hid hl.2.1
  have HN := Lib.hid hn
  have cn := rnum_any w B a n c bs s.n hown hn hB (by omega)
  obtain ⟨sa, sn, sc⟩ := s
  dsimp only at *
  clear hn
  go_enter Try.func38, Try.ntmps38
  go_wp2_with fail
  refine cn.mono ?_
  clear cn
  rintro e w1 ⟨a1, c1, rfl, hown1, hr1⟩
  obtain ⟨cs, hcs⟩ : ∃ cs, cs = bs ++ be8 (sn : Int) := ⟨_, rfl⟩
  rw [← hcs] at hown1 ⊢
  have HCS := Lib.hid hcs
  clear hcs
  have hst : NumsB w B bs l sn (.slice a1 cs.length c1) (.int .i64 0) w1 := ⟨0, a1, c1, cs, by rw [HL.out]; omega, rfl, rfl, Lib.hid (by rw [HCS.out, HL.out]; simp), hown1, hr1⟩
  go_wp2_with fail
  go_loopg [0, 5] sn (NumsB w B bs l)
  case atStart => exact hst
  case round =>
    clear hst hown1
    obtain ⟨k, a2, c2, ds, hk, rfl, rfl, hds, ho, hr⟩ := hrel
    rw [HL.out] at hk
    have hln : ds.length ≤ n + 8 + 8 * sn := by
      rw [hds.out, List.length_append, List.length_append, be8_length, HN.out, enc_len be8_length, List.length_take]
      omega
    by_cases hlt : k < sn
    · have t0 : decide ((k : Int) < (sn : Int)) = true := by simp; omega
      have hkl : k < l.length := by rw [HL.out]; exact hlt
      obtain ⟨b, o, rfl, hc⟩ := IntRow.cell (show IntRow w sa sn sc l from hl) k hkl
      have hbB : b < B := hi (by omega) _ rfl
      have hcr : wr.cell? ⟨b, o + k, none⟩ = some (.int .i64 l[k]) := by rw [hr.1.cell (p := ⟨b, o + k, none⟩) hbB]; exact hc
      have HT := Lib.hid (List.take_succ_eq_append_getElem hkl)
      generalize l[k] = x at *
      have cb := rnum_any wr B a2 ds.length c2 ds x ho rfl (Nat.le_trans hB hr.1.size) (by omega)
      clear hc
      go_wp2_with fail
      refine cb.mono ?_
      clear cb
      rintro e w3 ⟨a3, c3, rfl, ho3, hr3⟩
      have hr03 := Rx.trans _ _ _ hr hr3
      obtain ⟨es, hes⟩ : ∃ es, es = ds ++ be8 x := ⟨_, rfl⟩
      rw [← hes] at ho3 ⊢
      have HES := Lib.hid (show es = bs ++ (be8 l.length ++ (l.take (k + 1)).flatMap be8) by rw [hes, hds.out, HT.out, List.flatMap_append]; simp)
      clear hes
      go_wp2_with fail
      go_roundg (gk - 1)
      case measure => omega
      case rel => exact ⟨k + 1, a3, c3, es, by rw [HL.out]; omega, by go_num, rfl, HES, ho3, hr03⟩
    · have t0 : decide ((k : Int) < (sn : Int)) = false := by simp; omega
      have HF := Lib.hid (show ds = bs ++ encL l by rw [hds.out, List.take_of_length_le (by rw [HL.out]; omega)]; rfl)
      go_wp2_with fail
      go_ret
      rw [← HF.out]
      exact ⟨a2, c2, rfl, ho, hr⟩
end Go.Proofs.Ytdokkhjgmhcpkaa

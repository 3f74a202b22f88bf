/- The laws of chapter 2. -/
import Derived.Test.YtelhpnpngoaelaaSumsRef
import Derived.Test.YtelhpnpngoaelaaLex
namespace Go.Proofs.Ytelhpnpngoaelaa
open Go.RowKit

theorem rd4_le4 (s : BitVec 32) : rd4 ⟨s.setWidth 8⟩ ⟨(s >>> 8).setWidth 8⟩ ⟨(s >>> 16).setWidth 8⟩ ⟨(s >>> 24).setWidth 8⟩ = s := by
  apply BitVec.eq_of_getLsbD_eq
  intro i hi
  simp only [rd4, BitVec.getLsbD_or, BitVec.getLsbD_shiftLeft, BitVec.getLsbD_setWidth, BitVec.getLsbD_ushiftRight]
  rcases Nat.lt_or_ge i 8 with h | h
  · simp [hi, h, show i < 16 by omega, show i < 24 by omega]
  · rcases Nat.lt_or_ge i 16 with h2 | h2
    · simp [hi, show ¬ i < 8 by omega, show 8 + (i - 8) = i by omega, show i - 8 < 8 by omega, show i - 8 < 32 by omega, show i < 16 by omega, show i < 24 by omega]
    · rcases Nat.lt_or_ge i 24 with h3 | h3
      · simp [hi, show ¬ i < 8 by omega, show ¬ i < 16 by omega, show ¬ i - 8 < 8 by omega,show i < 24 by omega, show i - 16 < 8 by omega, show i - 16 < 32 by omega, show 16 + (i - 16) = i by omega]
      · simp [hi, show ¬ i < 8 by omega, show ¬ i < 16 by omega, show ¬ i - 8 < 8 by omega, show ¬ i < 24 by omega, show ¬ i - 16 < 8 by omega, show i - 24 < 8 by omega, show i - 24 < 32 by omega, show 24 + (i - 24) = i by omega]

/-- What has been put is taken. -/
theorem take_put (a : Option Addr) (len cap : Nat) (l : List UInt8) (w : World) (hl : BytesAt w a (putOf l)) (hlen : 4 + l.length = len) (hcap : len ≤ cap) (hm : len ≤ 1099511627776) :
    Calls Try.prog 7 #[.slice a len cap] w fun e w' => ∃ a' c', e = .returned (.tuple #[.slice a' l.length c', .bool true]) ∧ Own w' w.heap.size 5 1 a' l.length c' (l.map bv) ∧ Below w.heap.size w w' := by
  obtain ⟨b, o, rfl, _⟩ := RowAt.at hl (by simp [putOf, le4])
  refine (take_any b o len cap _ _ _ _ l w hl (by omega) hcap hm).mono fun e w' ⟨_, h, hb⟩ => ?_
  rw [rd4_le4, beq_self_eq_true] at h
  obtain ⟨a', c', h1, h2⟩ := h rfl
  exact ⟨a', c', h1, h2, hb⟩

theorem sum_nine : more 0#32 [49, 50, 51, 52, 53, 54, 55, 56, 57] = 0xcbf43926#32 := by decide +kernel
theorem join_ab : joinOf (more 0#32 [97]) (more 0#32 [98]) 1 = 0x9e83486d#32 := by decide +kernel

theorem join_one (a b : BitVec 32) (w : World) :
    Calls Try.prog 12 #[.int .u32 (U32 a), .int .u32 (U32 b), .int .i64 1] w fun e w' => e = .returned (.int .u32 (U32 (joinOf a b 1))) ∧ Below w.heap.size w w' := join_any a b 1 w (by omega) (by omega)

set_option maxHeartbeats 1000000 in
theorem wakes_any (w : World) : Calls Try.prog 6 #[] w fun e w' => e = .returned (.bool true) ∧ Below w.heap.size w w' := by
  have kc := fun (w : World) (C : Array Value) (n c : Nat) => Lib.run_convert_bytes_const (P := Try.prog) w 22 5 C n c Try.underlying22 Try.underlying5
  have t1 : (U32 (more 0#32 [49, 50, 51, 52, 53, 54, 55, 56, 57]) == 3421780262) = true := by rw [sum_nine]; rfl
  have t2 : (U32 (joinOf (more 0#32 [97]) (more 0#32 [98]) 1) == 2659403885) = true := by rw [join_ab]; rfl
  go_enter Try.func6, Try.ntmps6
  go_wp2_with fail
  refine (put_any _ 1 _ [120] _ (BytesAt.new _ _ _ _ _ rfl) rfl (by omega)).mono ?_
  rintro e w1 ⟨a1, c1, rfl, hown, hb1⟩
  go_wp2_with fail
  refine (take_put _ 5 _ [120] _ hown.row rfl hown.le (by omega)).mono ?_
  rintro e w2 ⟨a2, c2, rfl, hown2, hb2⟩
  have hb02 : Below w.heap.size w w2 := (((Below.refl _ _).alloc (Nat.le_refl _) _).trans (hb1.mono (by simp))).trans (hb2.mono (Nat.le_trans (by simp) hb1.size))
  go_wp2_with fail
  refine (sum_any _ 9 _ [49, 50, 51, 52, 53, 54, 55, 56, 57] _ (BytesAt.new _ _ _ _ _ rfl) rfl (by unfold maxLen; omega)).mono ?_
  rintro e w3 ⟨rfl, hb3⟩
  have hb23 : Below w2.heap.size w2 w3 := ((Below.refl _ _).alloc (Nat.le_refl _) _).trans (hb3.mono (by simp))
  go_wp2_with fail
  refine (sum_any _ 1 _ [97] _ (BytesAt.new _ _ _ _ _ rfl) rfl (by unfold maxLen; omega)).mono ?_
  rintro e w4 ⟨rfl, hb4⟩
  have hb34 : Below w3.heap.size w3 w4 := ((Below.refl _ _).alloc (Nat.le_refl _) _).trans (hb4.mono (by simp))
  go_wp2_with fail
  refine (sum_any _ 1 _ [98] _ (BytesAt.new _ _ _ _ _ rfl) rfl (by unfold maxLen; omega)).mono ?_
  rintro e w5 ⟨rfl, hb5⟩
  have hb45 : Below w4.heap.size w4 w5 := ((Below.refl _ _).alloc (Nat.le_refl _) _).trans (hb5.mono (by simp))
  go_wp2_with fail
  refine (join_one _ _ _).mono ?_
  rintro e w6 ⟨rfl, hb56⟩
  have hb26 : Below w2.heap.size w2 w6 := ((hb23.trans (hb34.mono hb23.size)).trans (hb45.mono (Nat.le_trans hb23.size hb34.size))).trans (hb56.mono (Nat.le_trans (Nat.le_trans hb23.size hb34.size) hb45.size))
  have hst := run_string_of (P := Try.prog) w6 (c := c2) Try.underlying22 Try.underlying5 Try.underlying9 (BytesAt.below hown2.row hb26) (len := 1) rfl
  have hbe : ((strOf [120]).toList == [120]) = true := by rw [strOf_toList]; rfl
  go_wp2_with fail
  go_ret
  exact ⟨rfl, hb02.trans (hb26.mono hb02.size)⟩

/-! ### SumsPut -/
/-- What Take takes out of bytes. -/
def takeOf : List UInt8 → Option (List UInt8)
  | c0 :: c1 :: c2 :: c3 :: m => if more 0#32 m = rd4 c0 c1 c2 c3 then some m else none
  | _ => none
def takeB (l : List UInt8) : List UInt8 := (takeOf l).getD []
def takeOk (l : List UInt8) : Bool := (takeOf l).isSome

theorem takeOf_short {l : List UInt8} (h : l.length < 4) : takeOf l = none := by
  match l, h with
  | [], _ => rfl
  | [_], _ => rfl
  | [_, _], _ => rfl
  | [_, _, _], _ => rfl
  | _ :: _ :: _ :: _ :: _, h => simp at h; omega
theorem four {l : List UInt8} (h : ¬ l.length < 4) : ∃ c0 c1 c2 c3 m, l = c0 :: c1 :: c2 :: c3 :: m := by
  match l, h with
  | [], h => simp at h
  | [_], h => simp at h
  | [_, _], h => simp at h
  | [_, _, _], h => simp at h
  | c0 :: c1 :: c2 :: c3 :: m, _ => exact ⟨c0, c1, c2, c3, m, rfl⟩

/-- A Take, whichever it is: what it answers, any row being given. -/
theorem take_of {f : Nat} (hs : ∀ (a : Option Addr) (len cap : Nat) (w : World), len < 4 → Calls Try.prog f #[.slice a len cap] w fun e w' => e = .returned (.tuple #[.slice none 0 0, .bool false]) ∧ w = w')
    (ha : ∀ (b o len cap : Nat) (c0 c1 c2 c3 : UInt8) (m : List UInt8) (w : World), BytesAt w (some ⟨b, o, none⟩) (c0 :: c1 :: c2 :: c3 :: m) → m.length + 4 = len → len ≤ cap → len ≤ 1099511627776 →
      Calls Try.prog f #[.slice (some ⟨b, o, none⟩) len cap] w (TakePost w (more 0#32 m == rd4 c0 c1 c2 c3) m))
    (a : Option Addr) (len cap : Nat) (l : List UInt8) (w : World) (hl : BytesAt w a l) (hlen : l.length = len) (hcap : len ≤ cap) (hm : len ≤ 1099511627776) :
    Calls Try.prog f #[.slice a len cap] w fun e w' => ∃ a' c', e = .returned (.tuple #[.slice a' (takeB l).length c', .bool (takeOk l)]) ∧ BytesAt w' a' (takeB l) ∧ Below w.heap.size w w' := by
  by_cases h : l.length < 4
  · refine (hs a len cap w (by omega)).mono fun e w' ⟨he, hw⟩ => ?_
    subst hw
    simp only [takeB, takeOk, takeOf_short h]
    exact ⟨none, 0, he, RowAt.nil _ _, Below.refl _ _⟩
  · obtain ⟨c0, c1, c2, c3, m, rfl⟩ := four h
    obtain ⟨b, o, rfl, _⟩ := RowAt.at hl (by simp)
    refine (ha b o len cap c0 c1 c2 c3 m w hl (by simpa using hlen) hcap hm).mono fun e w' ⟨h1, h2, hb⟩ => ?_
    by_cases he : more 0#32 m = rd4 c0 c1 c2 c3
    · obtain ⟨a', c', e1, e2⟩ := h2 (by simp [he])
      simp only [takeB, takeOk, takeOf, he, if_true]
      exact ⟨a', c', e1, e2.row, hb⟩
    · simp only [takeB, takeOk, takeOf, he, if_false]
      exact ⟨none, 0, h1 (by simp [he]), RowAt.nil _ _, hb⟩

set_option maxHeartbeats 400000 in
theorem sumsPut_great (a : Option Addr) (len cap : Nat) (w : World) (h : 20000 < len) :
    Calls Try.prog 3 #[.slice a len cap] w fun e w' => e = .returned (.bool true) ∧ Below w.heap.size w w' := by
  go_enter Try.func3, Try.ntmps3
  go_wp2_with (go_at_call 6; refine (wakes_any _).mono ?_; rintro e w1 ⟨rfl, hb⟩)
  go_ret
  exact ⟨rfl, by assumption⟩

set_option maxHeartbeats 1000000 in
theorem sumsPut_any (a : Option Addr) (len cap : Nat) (l : List UInt8) (w : World) (hl : BytesAt w a l) (hlen : l.length = len) (hcap : len ≤ cap) (h : ¬ 20000 < len) :
    Calls Try.prog 3 #[.slice a len cap] w fun e w' => e = .returned (.bool true) ∧ Below w.heap.size w w' := by
  have HL := Lib.hid hlen
  clear hlen
  go_enter Try.func3, Try.ntmps3
  go_wp2_with fail
  refine (take_of take_short take_any a len cap l _ hl HL.out hcap (by omega)).mono ?_
  rintro e w1 ⟨a1, c1, rfl, hx, hb1⟩
  have hl1 := hl.below hb1
  go_wp2_with fail
  refine (take_of ref_take_short ref_take_any a len cap l _ hl1 HL.out hcap (by omega)).mono ?_
  rintro e w2 ⟨a2, c2, rfl, hy, hb2⟩
  have hl2 := hl1.below hb2
  have hx2 := hx.below hb2
  have hb02 := hb1.trans (hb2.mono hb1.size)
  go_wp2_with fail
  refine (put_any a len cap l _ hl2 HL.out (by omega)).mono ?_
  rintro e w3 ⟨a3, c3, rfl, hp, hb3⟩
  go_wp2_with fail
  refine (take_put _ _ _ l _ hp.row (by rw [HL.out]) hp.le (by omega)).mono ?_
  rintro e w4 ⟨a4, c4, rfl, hz, hb4⟩
  have hb24 := hb3.trans (hb4.mono hb3.size)
  have hl4 := hl2.below hb24
  have hx4 := hx2.below hb24
  have hy4 := hy.below hb24
  have hb04 := hb02.trans (hb24.mono hb02.size)
  have hz4 : BytesAt w4 a4 l := hz.row
  have string_of := fun (W : World) (a : Option Addr) (n c : Nat) (l : List UInt8) (h : BytesAt W a l) (hn : l.length = n) => run_string_of (P := Try.prog) W (c := c) Try.underlying22 Try.underlying5 Try.underlying9 h hn
  have SO : ∀ (w0 : World) (a : Option Addr) (n c : Nat) (l : List UInt8), BytesAt w0 a l → l.length = n → ∀ W, Old w0 W → (convert 22 9 (.slice a n c)).run Try.prog W = .ok (.string (strOf l)) W := fun w0 a n c l h hn W hW => string_of W a n c l (h.below hW) hn
  clear string_of
  go_wp2_with fail
  refine wp_region_old (0 :: 1 :: 2 :: 3 :: 4 :: 5 :: 6 :: 7 :: 8 :: 9 :: 10 :: 11 :: 14 :: 12 :: 13 :: 15 :: 16 :: 17 :: 18 :: 19 :: 20 :: 21 :: 22 :: 23 :: 24 :: 25 :: 26 :: 27 :: 28 :: 29 :: 30 :: 31 :: 32 :: []) (by kernel_rfl) (by kernel_rfl) (fun c a d v w h => by cases d <;> exact h) ?_
  have k1 := SO _ a1 _ c1 _ hx4.drew rfl
  have k2 := SO _ a2 _ c2 _ hy4.drew rfl
  repeat (first | (refine lex_skip rfl (by rfl) ?_; simp only [Act.put, List.setIfInBounds_toArray, List.set]) | (refine lex_quiet (v := ?_) rfl rfl (by rfl) ?_ ?_; rotate_left; (intro W hW; go_simp); (try with_reducible rfl); simp only [Act.put, List.setIfInBounds_toArray, List.set]))
  refine lex_loud rfl rfl (by rfl) (fun K hK => ?_); go_wp2_with fail
  refine (put_any a len cap l _ hl4.drew HL.out (by omega)).mono ?_
  rintro e w5 ⟨a5, c5, rfl, hp5, hb5⟩
  have k5 := SO w5 a5 (4 + len) c5 _ hp5.row (by simp [putOf, le4, HL.out]; omega)
  go_wp2_with fail
  refine hK _ _ hb5 ?_
  clear hK K
  repeat (first | (refine lex_skip rfl (by rfl) ?_; simp only [Act.put, List.setIfInBounds_toArray, List.set]) | (refine lex_quiet (v := ?_) rfl rfl (by rfl) ?_ ?_; rotate_left; (intro W hW; go_simp); (try with_reducible rfl); simp only [Act.put, List.setIfInBounds_toArray, List.set]))
  refine lex_loud rfl rfl (by rfl) (fun K hK => ?_); go_wp2_with fail
  refine (ref_put_any a len cap l _ (hl4.drew.below hb5) HL.out (by omega)).mono ?_
  rintro e w6 ⟨a6, c6, rfl, hp6, hb6⟩
  have k6 := SO w6 a6 (4 + len) c6 _ hp6.row (by simp [putOf, le4, HL.out]; omega)
  have k7 := SO w6 a4 _ c4 _ ((hz4.drew.below hb5).below hb6) rfl
  have k8 := SO w6 a len cap _ ((hl4.drew.below hb5).below hb6) HL.out
  go_wp2_with fail
  refine hK _ _ hb6 ?_
  clear hK K
  repeat (first | (refine lex_skip rfl (by rfl) ?_; simp only [Act.put, List.setIfInBounds_toArray, List.set]) | (refine lex_quiet (v := ?_) rfl rfl (by rfl) ?_ ?_; rotate_left; (intro W hW; go_simp); (try with_reducible rfl); simp only [Act.put, List.setIfInBounds_toArray, List.set]))
  refine lex_loud rfl rfl (by rfl) (fun K hK => ?_); go_wp2_with fail
  refine (wakes_any _).mono ?_
  rintro e w7 ⟨rfl, hb7⟩
  go_wp2_with fail
  refine hK _ _ hb7 ?_
  repeat (first | (refine lex_skip rfl (by rfl) ?_; simp only [Act.put, List.setIfInBounds_toArray, List.set]) | (refine lex_quiet (v := ?_) rfl rfl (by rfl) ?_ ?_; rotate_left; (intro W hW; go_simp); (try with_reducible rfl); simp only [Act.put, List.setIfInBounds_toArray, List.set]))
  refine lex_nil ?_
  go_wp2_with fail
  go_ret
  exact ⟨rfl, below_step hb04 (below_step (below_step (below_step (Below.refl _ _).drew hb5) hb6) hb7)⟩

end Go.Proofs.Ytelhpnpngoaelaa

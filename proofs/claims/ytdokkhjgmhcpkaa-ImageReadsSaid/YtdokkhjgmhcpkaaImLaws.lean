/- States and actions as bytes: what is written is read, what is read is written. Plain: no program is named. -/
import Derived.Test.YtdokkhjgmhcpkaaImPlain
namespace Go.Proofs.Ytdokkhjgmhcpkaa
open Go.RowKit
set_option linter.unusedVariables false
set_option linter.unusedSimpArgs false

def natB (l : List UInt8) : Nat := l.foldl (fun n y => n * 256 + y.toNat) 0
theorem natB_snoc (l : List UInt8) (y : UInt8) : natB (l ++ [y]) = natB l * 256 + y.toNat := by
  unfold natB
  rw [List.foldl_append]
  rfl
theorem snoc_ind {P : List UInt8 → Prop} (h0 : P []) (h1 : ∀ l y, P l → P (l ++ [y])) (l : List UInt8) : P l := by
  have h : ∀ l : List UInt8, P l.reverse := fun l => by
    induction l with
    | nil => exact h0
    | cons y l ih => rw [List.reverse_cons]; exact h1 _ _ ih
  have := h l.reverse
  rwa [List.reverse_reverse] at this
theorem natB_lt (l : List UInt8) : natB l < 256 ^ l.length := by
  refine snoc_ind (P := fun l => natB l < 256 ^ l.length) ?_ (fun l y ih => ?_) l
  · simp [natB]
  · rw [natB_snoc, List.length_append, List.length_singleton, Nat.pow_succ]
    have := y.toNat_lt
    omega
theorem rdB_snoc' (l : List UInt8) (y : UInt8) : rdB (l ++ [y]) = (rdB l <<< 8 ||| y.toBitVec.setWidth 64) := by
  unfold rdB
  rw [List.foldl_append]
  rfl
theorem rdB_nat (l : List UInt8) (h : l.length ≤ 8) : (rdB l).toNat = natB l := by
  revert h
  refine snoc_ind (P := fun l => l.length ≤ 8 → (rdB l).toNat = natB l) ?_ (fun l y ih h => ?_) l
  · intro _; rfl
  · rw [List.length_append, List.length_singleton] at h
    have h1 := ih (by omega)
    have h2 := natB_lt l
    have h3 : 256 ^ l.length ≤ 256 ^ 7 := Nat.pow_le_pow_right (by omega) (by omega)
    have hy : y.toBitVec.toNat = y.toNat := rfl
    have hy2 := y.toNat_lt
    rw [rdB_snoc', natB_snoc, BitVec.toNat_or, BitVec.toNat_shiftLeft, BitVec.toNat_setWidth, h1, hy, Nat.mod_eq_of_lt (a := y.toNat) (by omega)]
    have h4 : natB l <<< 8 % 2 ^ 64 = natB l <<< 8 := by
      rw [Nat.shiftLeft_eq]
      exact Nat.mod_eq_of_lt (by omega)
    rw [h4, ← Nat.shiftLeft_add_eq_or_of_lt (by omega), Nat.shiftLeft_eq]
def be8B (v : BitVec 64) : List UInt8 := (List.range 8).map fun i => ⟨(v >>> (56 - 8 * i)).setWidth 8⟩
theorem be8_eq (n : Int) : be8 n = be8B (BitVec.ofInt 64 n) := rfl
theorem byte_nat (v : BitVec 64) (k : Nat) : (⟨(v >>> k).setWidth 8⟩ : UInt8).toNat = v.toNat / 2 ^ k % 256 := by
  show ((v >>> k).setWidth 8).toNat = _
  rw [BitVec.toNat_setWidth, BitVec.toNat_ushiftRight, Nat.shiftRight_eq_div_pow]
theorem be8B_list (v : BitVec 64) : be8B v = [⟨(v >>> 56).setWidth 8⟩, ⟨(v >>> 48).setWidth 8⟩, ⟨(v >>> 40).setWidth 8⟩, ⟨(v >>> 32).setWidth 8⟩, ⟨(v >>> 24).setWidth 8⟩, ⟨(v >>> 16).setWidth 8⟩, ⟨(v >>> 8).setWidth 8⟩, ⟨(v >>> 0).setWidth 8⟩] := rfl
theorem rdB_be8B (v : BitVec 64) : rdB (be8B v) = v := by
  apply BitVec.eq_of_toNat_eq
  rw [rdB_nat _ (by simp [be8B]), be8B_list]
  simp only [natB, List.foldl, byte_nat]
  have := v.isLt
  omega
theorem be8B_rdB (l : List UInt8) (h : l.length = 8) : be8B (rdB l) = l := by
  match l, h with
  | [a, b, c, d, e, f, g, i], _ =>
    have hn := rdB_nat [a, b, c, d, e, f, g, i] (by simp)
    simp only [natB, List.foldl] at hn
    have h0 := a.toNat_lt
    have h1 := b.toNat_lt
    have h2 := c.toNat_lt
    have h3 := d.toNat_lt
    have h4 := e.toNat_lt
    have h5 := f.toNat_lt
    have h6 := g.toNat_lt
    have h7 := i.toNat_lt
    rw [be8B_list]
    congr 1
    · apply UInt8.toNat_inj.1; rw [byte_nat, hn]; omega
    congr 1
    · apply UInt8.toNat_inj.1; rw [byte_nat, hn]; omega
    congr 1
    · apply UInt8.toNat_inj.1; rw [byte_nat, hn]; omega
    congr 1
    · apply UInt8.toNat_inj.1; rw [byte_nat, hn]; omega
    congr 1
    · apply UInt8.toNat_inj.1; rw [byte_nat, hn]; omega
    congr 1
    · apply UInt8.toNat_inj.1; rw [byte_nat, hn]; omega
    congr 1
    · apply UInt8.toNat_inj.1; rw [byte_nat, hn]; omega
    congr 1
    · apply UInt8.toNat_inj.1; rw [byte_nat, hn]; omega
theorem ofInt_toInt (n : Int) (h : wf64 n) : (BitVec.ofInt 64 n).toInt = n := by
  rw [BitVec.toInt_ofInt]
  simp only [wf64, Lit.wf, IntKind.min, IntKind.max, IntKind.signed, IntKind.bits] at h
  simp at h
  rw [Int.bmod_def]
  split <;> omega
/-- Bytes that stand for a thing. -/
structure Codec {α : Type} (ok : α → Prop) (enc : α → List UInt8) (rd : List UInt8 → Nat → Rd α) : Prop where
  back : ∀ x pre post, ok x → rd (pre ++ (enc x ++ post)) pre.length = .ok (x, pre.length + (enc x).length)
  fwd : ∀ bs a x b, a ≤ bs.length → rd bs a = .ok (x, b) → ok x ∧ b = a + (enc x).length ∧ b ≤ bs.length ∧ (bs.drop a).take (enc x).length = enc x
  err : ∀ bs a p, a ≤ bs.length → rd bs a = .error p → p ≤ bs.length
theorem codec_num : Codec wf64 be8 rdNum := by
  refine ⟨fun x pre post hx => ?_, fun bs a x b ha h => ?_, fun bs a p ha h => ?_⟩
  · unfold rdNum
    have hl := be8_length x
    rw [if_neg (by simp only [List.length_append]; omega), List.drop_left, List.take_append_of_le_length (by omega), List.take_of_length_le (by omega), hl, be8_eq, rdB_be8B, ofInt_toInt x hx]
  · unfold rdNum at h
    split at h
    · cases h
    · rename_i hle
      cases h
      have hl : ((bs.drop a).take 8).length = 8 := by rw [List.length_take, List.length_drop]; omega
      have e : be8 (rdB ((bs.drop a).take 8)).toInt = (bs.drop a).take 8 := by
        rw [be8_eq, BitVec.ofInt_toInt, be8B_rdB _ hl]
      refine ⟨?_, by rw [be8_length], by omega, by rw [be8_length, e]⟩
      have h1 := BitVec.toInt_lt (x := rdB ((bs.drop a).take 8))
      have h2 := BitVec.le_toInt (x := rdB ((bs.drop a).take 8))
      simp only [wf64, Lit.wf, IntKind.min, IntKind.max, IntKind.signed, IntKind.bits]
      simp at h1 h2 ⊢
      omega
  · unfold rdNum at h
    split at h
    · cases h; exact Nat.le_refl _
    · cases h
theorem wf8_64' {n : Int} (h : wf8 n) : wf64 n ∧ -128 ≤ n ∧ n ≤ 127 := by
  simp only [wf8, wf64, Lit.wf, IntKind.min, IntKind.max, IntKind.signed, IntKind.bits] at *
  simp at *
  omega
theorem wf8_of {n : Int} (h : ¬ (n < -128 ∨ 127 < n)) : wf8 n := by
  simp only [wf8, Lit.wf, IntKind.min, IntKind.max, IntKind.signed, IntKind.bits]
  simp
  omega
theorem codec_small : Codec wf8 be8 rdSmall := by
  refine ⟨fun x pre post hx => ?_, fun bs a x b ha h => ?_, fun bs a p ha h => ?_⟩
  · obtain ⟨h1, h2⟩ := wf8_64' hx
    unfold rdSmall
    rw [codec_num.back x pre post h1]
    dsimp only
    rw [if_neg (by omega)]
  · unfold rdSmall at h
    cases hn : rdNum bs a with
    | error p => rw [hn] at h; cases h
    | ok v =>
      rw [hn] at h
      dsimp only at h
      split at h
      · cases h
      · rename_i ho
        cases h
        have := codec_num.fwd bs a v.1 v.2 ha hn
        exact ⟨wf8_of ho, this.2⟩
  · unfold rdSmall at h
    cases hn : rdNum bs a with
    | error p' => rw [hn] at h; cases h; exact codec_num.err bs a _ ha hn
    | ok v =>
      rw [hn] at h
      dsimp only at h
      split at h
      · cases h; exact ha
      · cases h
theorem codec_truth : Codec (fun _ => True) tr1 rdTruth := by
  refine ⟨fun x pre post hx => ?_, fun bs a x b ha h => ?_, fun bs a p ha h => ?_⟩
  · unfold rdTruth
    rw [List.getElem?_append_right (Nat.le_refl _), Nat.sub_self]
    cases x <;> rfl
  · unfold rdTruth at h
    cases hn : bs[a]? with
    | none => rw [hn] at h; cases h
    | some y =>
      rw [hn] at h
      dsimp only at h
      split at h
      · cases h
      · rename_i ho
        cases h
        obtain ⟨hlt, he⟩ := List.getElem?_eq_some_iff.1 hn
        refine ⟨trivial, rfl, hlt, ?_⟩
        show (bs.drop a).take 1 = _
        rw [List.drop_eq_getElem_cons hlt, he]
        have hy : y = 0 ∨ y = 1 := by
          rcases (show y.toNat = 0 ∨ y.toNat = 1 by omega) with h0 | h0
          · exact .inl (UInt8.toNat_inj.1 h0)
          · exact .inr (UInt8.toNat_inj.1 h0)
        rcases hy with rfl | rfl <;> rfl
  · unfold rdTruth at h
    cases hn : bs[a]? with
    | none => rw [hn] at h; cases h; exact ha
    | some y =>
      rw [hn] at h
      dsimp only at h
      split at h
      · cases h; exact ha
      · cases h
section
variable {α β : Type} {ok1 : α → Prop} {ok2 : β → Prop} {enc1 : α → List UInt8} {enc2 : β → List UInt8} {rd1 : List UInt8 → Nat → Rd α} {rd2 : List UInt8 → Nat → Rd β}
theorem Codec.seq (h1 : Codec ok1 enc1 rd1) (h2 : Codec ok2 enc2 rd2) : Codec (fun xy : α × β => ok1 xy.1 ∧ ok2 xy.2) (fun xy => enc1 xy.1 ++ enc2 xy.2) (fun bs a => thn (rd1 bs a) fun x a => thn (rd2 bs a) fun y a => .ok ((x, y), a)) := by
  refine ⟨fun x pre post hx => ?_, fun bs a x b ha h => ?_, fun bs a p ha h => ?_⟩
  · have e1 : pre ++ (enc1 x.1 ++ enc2 x.2 ++ post) = pre ++ (enc1 x.1 ++ (enc2 x.2 ++ post)) := by rw [List.append_assoc]
    have e2 : pre ++ (enc1 x.1 ++ (enc2 x.2 ++ post)) = (pre ++ enc1 x.1) ++ (enc2 x.2 ++ post) := by simp
    (try dsimp only)
    rw [e1, h1.back x.1 pre _ hx.1]
    dsimp only [thn]
    rw [e2, ← List.length_append, h2.back x.2 (pre ++ enc1 x.1) post hx.2]
    dsimp only
    simp only [List.length_append, Nat.add_assoc]
  · (try dsimp only at h)
    cases hr1 : rd1 bs a with
    | error p => rw [hr1] at h; cases h
    | ok v =>
      rw [hr1] at h
      dsimp only [thn] at h
      obtain ⟨o1, e1, l1, t1⟩ := h1.fwd bs a v.1 v.2 ha hr1
      cases hr2 : rd2 bs v.2 with
      | error p => rw [hr2] at h; cases h
      | ok u =>
        rw [hr2] at h
        dsimp only at h
        cases h
        obtain ⟨o2, e2, l2, t2⟩ := h2.fwd bs v.2 u.1 u.2 l1 hr2
        refine ⟨⟨o1, o2⟩, by dsimp only; rw [List.length_append]; omega, l2, ?_⟩
        (try dsimp only)
        rw [List.length_append, List.take_add, t1, List.drop_drop, ← e1, t2]
  · (try dsimp only at h)
    cases hr1 : rd1 bs a with
    | error p' => rw [hr1] at h; cases h; exact h1.err bs a _ ha hr1
    | ok v =>
      rw [hr1] at h
      dsimp only [thn] at h
      obtain ⟨o1, e1, l1, t1⟩ := h1.fwd bs a v.1 v.2 ha hr1
      cases hr2 : rd2 bs v.2 with
      | error p' => rw [hr2] at h; cases h; exact h2.err bs v.2 _ l1 hr2
      | ok u => rw [hr2] at h; cases h
/-- The same under another name. -/
theorem Codec.iso (h : Codec ok1 enc1 rd1) (f : α → β) (g : β → α) (hgf : ∀ x, g (f x) = x) (hfg : ∀ y, f (g y) = y) (hok : ∀ x, ok2 (f x) ↔ ok1 x) (henc : ∀ x, enc2 (f x) = enc1 x) (hrd : ∀ bs a, rd2 bs a = thn (rd1 bs a) fun x a => .ok (f x, a)) : Codec ok2 enc2 rd2 := by
  refine ⟨fun y pre post hy => ?_, fun bs a y b ha h' => ?_, fun bs a p ha h' => ?_⟩
  · rw [← hfg y] at hy ⊢
    rw [hrd, henc, h.back (g y) pre post ((hok _).1 hy)]
    rfl
  · rw [hrd] at h'
    cases hr : rd1 bs a with
    | error p => rw [hr] at h'; cases h'
    | ok v =>
      rw [hr] at h'
      cases h'
      obtain ⟨o1, e1, l1, t1⟩ := h.fwd bs a v.1 v.2 ha hr
      exact ⟨(hok _).2 o1, by rw [henc]; exact e1, l1, by rw [henc]; exact t1⟩
  · rw [hrd] at h'
    cases hr : rd1 bs a with
    | error p' => rw [hr] at h'; cases h'; exact h.err bs a _ ha hr
    | ok v => rw [hr] at h'; cases h'
theorem codec_many (h : Codec ok1 enc1 rd1) : ∀ (l : List α) (pre post : List UInt8), (∀ x ∈ l, ok1 x) → rdMany (rd1 (pre ++ (l.flatMap enc1 ++ post))) l.length pre.length = .ok (l, pre.length + (l.flatMap enc1).length)
  | [], pre, post, _ => by simp [rdMany]
  | x :: l, pre, post, hx => by
    have e1 : pre ++ ((x :: l).flatMap enc1 ++ post) = pre ++ (enc1 x ++ (l.flatMap enc1 ++ post)) := by simp
    have e2 : pre ++ (enc1 x ++ (l.flatMap enc1 ++ post)) = (pre ++ enc1 x) ++ (l.flatMap enc1 ++ post) := by simp
    rw [List.length_cons, rdMany, e1, h.back x pre _ (hx x (by simp))]
    dsimp only
    rw [e2, ← List.length_append, codec_many h l (pre ++ enc1 x) post (fun y hy => hx y (by simp [hy]))]
    dsimp only
    simp [Nat.add_assoc]
theorem codec_many_fwd (h : Codec ok1 enc1 rd1) (bs : List UInt8) : ∀ (n a : Nat) (l : List α) (b : Nat), a ≤ bs.length → rdMany (rd1 bs) n a = .ok (l, b) → l.length = n ∧ (∀ x ∈ l, ok1 x) ∧ b = a + (l.flatMap enc1).length ∧ b ≤ bs.length ∧ (bs.drop a).take (l.flatMap enc1).length = l.flatMap enc1
  | 0, a, l, b, ha, hr => by
    simp only [rdMany] at hr
    cases hr
    exact ⟨rfl, by simp, by simp, ha, by simp⟩
  | n + 1, a, l, b, ha, hr => by
    simp only [rdMany] at hr
    cases hr1 : rd1 bs a with
    | error p => rw [hr1] at hr; cases hr
    | ok v =>
      rw [hr1] at hr
      dsimp only at hr
      obtain ⟨o1, e1, l1, t1⟩ := h.fwd bs a v.1 v.2 ha hr1
      cases hr2 : rdMany (rd1 bs) n v.2 with
      | error p => rw [hr2] at hr; cases hr
      | ok u =>
        rw [hr2] at hr
        dsimp only at hr
        cases hr
        obtain ⟨n2, o2, e2, l2, t2⟩ := codec_many_fwd h bs n v.2 u.1 u.2 l1 hr2
        refine ⟨by simp [n2], ?_, by rw [List.flatMap_cons, List.length_append]; omega, l2, ?_⟩
        · intro x hx
          rcases List.mem_cons.1 hx with rfl | hx
          · exact o1
          · exact o2 x hx
        · rw [List.flatMap_cons, List.length_append, List.take_add, t1, List.drop_drop, ← e1, t2]
theorem codec_many_err (h : Codec ok1 enc1 rd1) (bs : List UInt8) : ∀ (n a p : Nat), a ≤ bs.length → rdMany (rd1 bs) n a = .error p → p ≤ bs.length
  | 0, a, p, ha, hr => by simp only [rdMany] at hr; cases hr
  | n + 1, a, p, ha, hr => by
    simp only [rdMany] at hr
    cases hr1 : rd1 bs a with
    | error p' => rw [hr1] at hr; cases hr; exact h.err bs a _ ha hr1
    | ok v =>
      rw [hr1] at hr
      dsimp only at hr
      obtain ⟨o1, e1, l1, t1⟩ := h.fwd bs a v.1 v.2 ha hr1
      cases hr2 : rdMany (rd1 bs) n v.2 with
      | error p' => rw [hr2] at hr; cases hr; exact codec_many_err h bs n v.2 _ l1 hr2
      | ok u => rw [hr2] at hr; cases hr
theorem flat_len {each : Nat} (he : ∀ x, (enc1 x).length = each) : ∀ l : List α, (l.flatMap enc1).length = l.length * each
  | [] => by simp
  | x :: l => by rw [List.flatMap_cons, List.length_append, he, flat_len he l, List.length_cons, Nat.add_mul, Nat.one_mul, Nat.add_comm]
theorem codec_list (h : Codec ok1 enc1 rd1) (each : Nat) (hp : 0 < each) (he : ∀ x, (enc1 x).length = each) :
    Codec (fun l : List α => (∀ x ∈ l, ok1 x) ∧ wf64 (l.length : Int)) (fun l => be8 (l.length : Int) ++ l.flatMap enc1) (fun bs a => rdList bs each (rd1 bs) a) := by
  refine ⟨fun l pre post hl => ?_, fun bs a l b ha hr => ?_, fun bs a p ha hr => ?_⟩
  · have e1 : pre ++ (be8 (l.length : Int) ++ l.flatMap enc1 ++ post) = pre ++ (be8 (l.length : Int) ++ (l.flatMap enc1 ++ post)) := by rw [List.append_assoc]
    have e2 : pre ++ (be8 (l.length : Int) ++ (l.flatMap enc1 ++ post)) = (pre ++ be8 (l.length : Int)) ++ (l.flatMap enc1 ++ post) := by simp
    (try dsimp only)
    unfold rdList
    rw [e1, codec_num.back _ pre _ hl.2]
    dsimp only
    have hfl := flat_len he l
    have hge : (l.length : Int) ≤ (((pre ++ (be8 (l.length : Int) ++ (l.flatMap enc1 ++ post))).length : Int) - ((pre.length + (be8 (l.length : Int)).length : Nat) : Int)).tdiv (each : Int) := by
      rw [Int.tdiv_eq_ediv_of_nonneg (by simp only [List.length_append]; omega)]
      refine (Int.le_ediv_iff_mul_le (by omega)).2 ?_
      simp only [List.length_append, hfl]
      push_cast
      omega
    rw [if_neg (by omega), e2, ← List.length_append, Int.toNat_natCast, codec_many h l (pre ++ be8 (l.length : Int)) post hl.1]
    simp [Nat.add_assoc]
  · (try dsimp only at hr)
    unfold rdList at hr
    cases hn : rdNum bs a with
    | error p => rw [hn] at hr; cases hr
    | ok v =>
      rw [hn] at hr
      dsimp only at hr
      split at hr
      · cases hr
      · rename_i ho
        obtain ⟨o1, e1, l1, t1⟩ := codec_num.fwd bs a v.1 v.2 ha hn
        obtain ⟨n2, o2, e2, l2, t2⟩ := codec_many_fwd h bs v.1.toNat v.2 l b l1 hr
        have hv : v.1 = (l.length : Int) := by omega
        rw [hv] at o1 e1 t1
        refine ⟨⟨o2, o1⟩, by rw [List.length_append]; omega, l2, ?_⟩
        (try dsimp only)
        rw [List.length_append, List.take_add, t1, List.drop_drop, ← e1, t2]
  · (try dsimp only at hr)
    unfold rdList at hr
    cases hn : rdNum bs a with
    | error p' => rw [hn] at hr; cases hr; exact codec_num.err bs a _ ha hn
    | ok v =>
      rw [hn] at hr
      dsimp only at hr
      obtain ⟨o1, e1, l1, t1⟩ := codec_num.fwd bs a v.1 v.2 ha hn
      split at hr
      · cases hr; exact ha
      · exact codec_many_err h bs _ v.2 p l1 hr
end
end Go.Proofs.Ytdokkhjgmhcpkaa

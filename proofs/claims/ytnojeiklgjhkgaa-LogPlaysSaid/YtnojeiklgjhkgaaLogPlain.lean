/- Records of chapter 26 as lists of bytes. No program is named. -/
import Derived.Test.YtnojeiklgjhkgaaCrc
namespace Go.Proofs.Ytnojeiklgjhkgaa

def be4 (n : Nat) : List UInt8 := [UInt8.ofNat (n / 16777216), UInt8.ofNat (n / 65536), UInt8.ofNat (n / 256), UInt8.ofNat n]
def rdBE (c0 c1 c2 c3 : UInt8) : Nat := c0.toNat * 16777216 + c1.toNat * 65536 + c2.toNat * 256 + c3.toNat
def recSum (l : List UInt8) : BitVec 32 := more (more 0#32 (be4 l.length)) l
def head8 (l : List UInt8) : List UInt8 := be4 l.length ++ le4 (recSum l)
def record (l : List UInt8) : List UInt8 := head8 l ++ l

theorem be4_length (n : Nat) : (be4 n).length = 4 := rfl
theorem head8_length (l : List UInt8) : (head8 l).length = 8 := rfl
theorem record_length (l : List UInt8) : (record l).length = 8 + l.length := by simp [record, head8_length]
theorem rdBE_be4 (c0 c1 c2 c3 : UInt8) : be4 (rdBE c0 c1 c2 c3) = [c0, c1, c2, c3] := by
  have h0 : c0.toNat < 256 := c0.toBitVec.isLt
  have h1 : c1.toNat < 256 := c1.toBitVec.isLt
  have h2 : c2.toNat < 256 := c2.toBitVec.isLt
  have h3 : c3.toNat < 256 := c3.toBitVec.isLt
  have e : ∀ (c : UInt8) (n : Nat), n % 256 = c.toNat → UInt8.ofNat n = c := by
    intro c n h
    apply UInt8.toNat.inj
    rw [UInt8.toNat_ofNat']
    simpa using h
  unfold be4 rdBE
  rw [e c0 _ (by omega), e c1 _ (by omega), e c2 _ (by omega), e c3 _ (by omega)]
theorem rdBE_lt (c0 c1 c2 c3 : UInt8) : rdBE c0 c1 c2 c3 < 4294967296 := by
  have h0 : c0.toNat < 256 := c0.toBitVec.isLt
  have h1 : c1.toNat < 256 := c1.toBitVec.isLt
  have h2 : c2.toNat < 256 := c2.toBitVec.isLt
  have h3 : c3.toNat < 256 := c3.toBitVec.isLt
  unfold rdBE; omega
theorem be4_inj {n m : Nat} (h1 : n < 4294967296) (h2 : m < 4294967296) (h : be4 n = be4 m) : n = m := by
  unfold be4 at h
  simp only [List.cons.injEq, and_true] at h
  obtain ⟨a, b, c, d⟩ := h
  have f : ∀ x y, UInt8.ofNat x = UInt8.ofNat y → x % 256 = y % 256 := by
    intro x y e
    have := congrArg UInt8.toNat e
    simpa using this
  have a := f _ _ a
  have b := f _ _ b
  have c := f _ _ c
  have d := f _ _ d
  omega

/-- How many bytes the load of a record at the beginning of b has, if one is there. -/
def scanN (b : List UInt8) : Nat := rdBE (b.getD 0 0) (b.getD 1 0) (b.getD 2 0) (b.getD 3 0)
def loadOf (b : List UInt8) : List UInt8 := (b.drop 8).take (scanN b)
def scans (b : List UInt8) : Bool := decide (8 < b.length) && decide (1 ≤ scanN b) && decide (scanN b ≤ 65536) && decide (scanN b ≤ b.length - 8) && (b.take 8 == head8 (loadOf b))
/-- The loads at the beginning, at most f of them, and what is left. -/
def scan : Nat → List UInt8 → List (List UInt8) × List UInt8
  | 0, b => ([], b)
  | f + 1, b => if scans b then (loadOf b :: (scan f (b.drop (8 + scanN b))).1, (scan f (b.drop (8 + scanN b))).2) else ([], b)

theorem scan_step {f : Nat} {b : List UInt8} (h : scans b = true) : scan (f + 1) b = (loadOf b :: (scan f (b.drop (8 + scanN b))).1, (scan f (b.drop (8 + scanN b))).2) := by simp [scan, h]
theorem scan_stop {f : Nat} {b : List UInt8} (h : scans b = false) : scan f b = ([], b) := by cases f <;> simp [scan, h]
theorem scan_zero (b : List UInt8) : scan 0 b = ([], b) := rfl
theorem scans_short {b : List UInt8} (h : b.length ≤ 8) : scans b = false := by
  unfold scans
  rw [decide_eq_false (by omega)]; rfl
theorem loadOf_length {b : List UInt8} (h : scanN b ≤ b.length - 8) : (loadOf b).length = scanN b := by
  unfold loadOf
  rw [List.length_take, List.length_drop]; omega
theorem scans_eq {b : List UInt8} (h1 : 8 < b.length) (h2 : 1 ≤ scanN b) (h3 : scanN b ≤ 65536) (h4 : scanN b ≤ b.length - 8) : scans b = (b.take 8 == head8 (loadOf b)) := by
  unfold scans
  rw [decide_eq_true h1, decide_eq_true h2, decide_eq_true h3, decide_eq_true h4]; rfl
theorem scans_no {b : List UInt8} (h : ¬ (1 ≤ scanN b ∧ scanN b ≤ 65536 ∧ scanN b ≤ b.length - 8)) : scans b = false := by
  unfold scans
  rw [← Bool.not_eq_true]
  simp only [Bool.and_eq_true, decide_eq_true_eq]
  omega

theorem scan_left (f : Nat) (b : List UInt8) : (scan f b).2.length ≤ b.length := by
  induction f generalizing b with
  | zero => simp [scan]
  | succ f ih =>
    by_cases h : scans b = true
    · rw [scan_step h]
      have := ih (b.drop (8 + scanN b))
      rw [List.length_drop] at this
      show (scan f (b.drop (8 + scanN b))).2.length ≤ _
      omega
    · rw [scan_stop (by simpa using h)]; exact Nat.le_refl _
theorem scan_count (f : Nat) (b : List UInt8) : (scan f b).1.length ≤ f := by
  induction f generalizing b with
  | zero => simp [scan]
  | succ f ih =>
    by_cases h : scans b = true
    · rw [scan_step h]
      have := ih (b.drop (8 + scanN b))
      simp only [List.length_cons]; omega
    · rw [scan_stop (by simpa using h)]; simp

/-- Eight bytes and more: is a record there? -/
theorem scans_bytes (c0 c1 c2 c3 d0 d1 d2 d3 : UInt8) (m : List UInt8) (hm : m ≠ []) (h1 : 1 ≤ rdBE c0 c1 c2 c3) (h2 : rdBE c0 c1 c2 c3 ≤ 65536) (h3 : rdBE c0 c1 c2 c3 ≤ m.length) :
    scans (c0 :: c1 :: c2 :: c3 :: d0 :: d1 :: d2 :: d3 :: m) = ([d0, d1, d2, d3] == le4 (recSum (m.take (rdBE c0 c1 c2 c3)))) := by
  have hl : (m.take (rdBE c0 c1 c2 c3)).length = rdBE c0 c1 c2 c3 := by rw [List.length_take]; omega
  have hp : 0 < m.length := List.length_pos_iff.2 hm
  have e : scanN (c0 :: c1 :: c2 :: c3 :: d0 :: d1 :: d2 :: d3 :: m) = rdBE c0 c1 c2 c3 := rfl
  rw [scans_eq (by simp only [List.length_cons]; omega) (by rw [e]; exact h1) (by rw [e]; exact h2) (by rw [e]; simp only [List.length_cons]; omega)]
  show ([c0, c1, c2, c3, d0, d1, d2, d3] == be4 (m.take (rdBE c0 c1 c2 c3)).length ++ le4 (recSum (m.take (rdBE c0 c1 c2 c3)))) = _
  rw [hl, rdBE_be4]
  simp
theorem recSum_of (c0 c1 c2 c3 : UInt8) (l : List UInt8) (h : l.length = rdBE c0 c1 c2 c3) : more (more 0#32 [c0, c1, c2, c3]) l = recSum l := by
  unfold recSum
  rw [h, rdBE_be4]
theorem scan_done {most f : Nat} {b r : List UInt8} {done : List (List UInt8)} (h : scan most b = (done ++ (scan f r).1, (scan f r).2)) (hf : f = 0 ∨ scans r = false) : scan most b = (done, r) := by
  have : scan f r = ([], r) := by
    rcases hf with rfl | hf
    · rfl
    · exact scan_stop hf
  rw [h, this]; simp
theorem scan_more {most f : Nat} {b r : List UInt8} {done : List (List UInt8)} (h : scan most b = (done ++ (scan (f + 1) r).1, (scan (f + 1) r).2)) (hf : scans r = true) :
    scan most b = ((done ++ [loadOf r]) ++ (scan f (r.drop (8 + scanN r))).1, (scan f (r.drop (8 + scanN r))).2) := by
  rw [h, scan_step hf]; simp
theorem eight {r : List UInt8} (h : 8 < r.length) : ∃ c0 c1 c2 c3 d0 d1 d2 d3 m, r = c0 :: c1 :: c2 :: c3 :: d0 :: d1 :: d2 :: d3 :: m ∧ m ≠ [] := by
  match r, h with
  | c0 :: c1 :: c2 :: c3 :: d0 :: d1 :: d2 :: d3 :: x :: m, _ => exact ⟨c0, c1, c2, c3, d0, d1, d2, d3, x :: m, rfl, by simp⟩

/-! ### A record is scanned as its load -/
theorem scanN_record (l m : List UInt8) (h : l.length < 4294967296) : scanN (record l ++ m) = l.length := by
  have e : be4 (scanN (record l ++ m)) = be4 l.length := by
    unfold scanN
    rw [rdBE_be4]
    rfl
  exact be4_inj (rdBE_lt _ _ _ _) h e
theorem drop_record (l m : List UInt8) : (record l ++ m).drop 8 = l ++ m := rfl
theorem take_record (l m : List UInt8) : (record l ++ m).take 8 = head8 l := rfl
theorem loadOf_record (l m : List UInt8) (h : l.length < 4294967296) : loadOf (record l ++ m) = l := by
  unfold loadOf
  rw [scanN_record l m h, drop_record, List.take_left]
theorem scans_record (l m : List UInt8) (h1 : 1 ≤ l.length) (h2 : l.length ≤ 65536) : scans (record l ++ m) = true := by
  rw [scans_eq, loadOf_record l m (by omega), take_record, BEq.rfl]
  · rw [List.length_append, record_length]; omega
  · rw [scanN_record l m (by omega)]; exact h1
  · rw [scanN_record l m (by omega)]; exact h2
  · rw [scanN_record l m (by omega), List.length_append, record_length]; omega
theorem scan_record (f : Nat) (l m : List UInt8) (h1 : 1 ≤ l.length) (h2 : l.length ≤ 65536) : scan (f + 1) (record l ++ m) = (l :: (scan f m).1, (scan f m).2) := by
  rw [scan_step (scans_record l m h1 h2), loadOf_record l m (by omega), scanN_record l m (by omega)]
  have e : (record l ++ m).drop (8 + l.length) = m := by rw [← record_length, List.drop_left]
  rw [e]
/-- Fewer bytes than a record has are none. -/
theorem scans_part (l m : List UInt8) (k : Nat) (h : l.length < 4294967296) (hk : k < (record l).length) : scans ((record l ++ m).take k) = false := by
  rw [record_length] at hk
  by_cases h8 : k ≤ 8
  · exact scans_short (by rw [List.length_take]; omega)
  · have e : scanN ((record l ++ m).take k) = l.length := by
      have g : scanN ((record l ++ m).take k) = scanN (record l ++ m) := by
        unfold scanN
        have t : ∀ i, i < 4 → ((record l ++ m).take k).getD i 0 = (record l ++ m).getD i 0 := by
          intro i hi
          rw [List.getD_eq_getElem?_getD, List.getD_eq_getElem?_getD, List.getElem?_take, if_pos (by omega)]
        rw [t 0 (by omega), t 1 (by omega), t 2 (by omega), t 3 (by omega)]
      rw [g, scanN_record l m h]
    refine scans_no fun ⟨_, _, h3⟩ => ?_
    rw [e, List.length_take] at h3
    omega

/-- Records one behind the other. -/
def records (ls : List (List UInt8)) : List UInt8 := (ls.map record).flatten
theorem records_nil : records [] = [] := rfl
theorem records_cons (l : List UInt8) (ls : List (List UInt8)) : records (l :: ls) = record l ++ records ls := by simp [records]
theorem records_snoc (l : List UInt8) (ls : List (List UInt8)) : records (ls ++ [l]) = records ls ++ record l := by simp [records]
theorem records_append (ls ms : List (List UInt8)) : records (ls ++ ms) = records ls ++ records ms := by simp [records]
def Fair (ls : List (List UInt8)) : Prop := ∀ l ∈ ls, 1 ≤ l.length ∧ l.length ≤ 65536
theorem scan_records (f : Nat) (ls : List (List UInt8)) (m : List UInt8) (h : Fair ls) (hf : ls.length ≤ f) : scan f (records ls ++ m) = (ls ++ (scan (f - ls.length) m).1, (scan (f - ls.length) m).2) := by
  induction ls generalizing f with
  | nil => simp [records]
  | cons l ls ih =>
    obtain ⟨h1, h2⟩ := h l List.mem_cons_self
    cases f with
    | zero => simp at hf
    | succ f =>
      rw [records_cons, List.append_assoc, scan_record f l _ h1 h2, ih f (fun x hx => h x (List.mem_cons_of_mem _ hx)) (by simpa using hf)]
      simp only [List.length_cons, Nat.add_sub_add_right, List.cons_append]
/-- Of a beginning: the loads that are whole in it, and as many bytes more as are left. -/
theorem scan_cut (f : Nat) (ls : List (List UInt8)) (cut k : Nat) (h : Fair ls) (hf : ls.length ≤ f) (hk : k ≤ ls.length) (h1 : (records (ls.take k)).length ≤ cut) (h2 : (hlt : k < ls.length) → cut < (records (ls.take (k + 1))).length) :
    scan f ((records ls).take cut) = (ls.take k, ((records ls).take cut).drop (records (ls.take k)).length) := by
  have e : records ls = records (ls.take k) ++ records (ls.drop k) := by rw [← records_append, List.take_append_drop]
  have hfk : Fair (ls.take k) := fun x hx => h x (List.mem_of_mem_take hx)
  have lk : (ls.take k).length = k := by rw [List.length_take]; omega
  rw [e]
  have e2 : (records (ls.take k) ++ records (ls.drop k)).take cut = records (ls.take k) ++ (records (ls.drop k)).take (cut - (records (ls.take k)).length) := by
    rw [List.take_append]
    rw [List.take_of_length_le h1]
  rw [e2, scan_records f _ _ hfk (by omega), List.drop_left]
  have hno : scans ((records (ls.drop k)).take (cut - (records (ls.take k)).length)) = false := by
    by_cases hlt : k < ls.length
    · have h2 := h2 hlt
      rw [List.take_succ_eq_append_getElem hlt, records_snoc, List.length_append] at h2
      have hd : ls.drop k = ls[k] :: ls.drop (k + 1) := List.drop_eq_getElem_cons hlt
      rw [hd, records_cons]
      refine scans_part _ _ _ ?_ (by omega)
      have := h ls[k] (List.getElem_mem _)
      omega
    · have : ls.drop k = [] := List.drop_eq_nil_of_le (by omega)
      rw [this]
      exact scans_short (by simp [records])
  rw [scan_stop hno, List.append_nil]

end Go.Proofs.Ytnojeiklgjhkgaa

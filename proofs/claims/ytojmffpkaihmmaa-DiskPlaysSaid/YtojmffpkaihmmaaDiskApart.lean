/- DiskApart's walk: what is done to other files changes none. -/
import Derived.Test.YtojmffpkaihmmaaCameActs
namespace Go.Proofs.Ytojmffpkaihmmaa
open Go.RowKit Go.Maps Go.Shelf
set_option linter.unusedVariables false
set_option linter.unusedSimpArgs false

/-! ### The plain law -/
def Has (p : DiskP) (nm : Name) (b : List UInt8) : Prop := p.down = false ∧ p.armed = false ∧ p.fs.find? (fun f => f.name = nm) = some ⟨nm, b, 0⟩
theorem Has.goes {p : DiskP} {nm : Name} {b : List UInt8} (h : Has p nm b) : Has (goesP p).1 nm b := by
  unfold goesP; rw [if_pos h.2.1]; exact h
theorem find_updF {fs : List FileP} {nm x : Name} (g : FileP → FileP) (hg : ∀ f, (g f).name = f.name) (hx : x ≠ nm) : (updF fs x g).find? (fun f => f.name = nm) = fs.find? (fun f => f.name = nm) := by
  unfold updF
  induction fs with
  | nil => rfl
  | cons f l ih =>
    rw [List.map_cons, List.find?_cons, List.find?_cons, ih]
    by_cases e : f.name = x
    · rw [if_pos e, hg f]
      have : ¬ f.name = nm := fun e2 => hx (e.symm.trans e2)
      rw [decide_eq_false this]
    · rw [if_neg e]
theorem Has.upd {p : DiskP} {nm x : Name} {b : List UInt8} (h : Has p nm b) (g : FileP → FileP) (hg : ∀ f, (g f).name = f.name) (hx : x ≠ nm) : Has (updP p x g) nm b :=
  ⟨h.1, h.2.1, by show (updF p.fs x g).find? _ = _; rw [find_updF g hg hx]; exact h.2.2⟩
theorem Has.make {p : DiskP} {nm x : Name} {b : List UInt8} (h : Has p nm b) : Has (makeP p x).1 nm b := by
  unfold makeP
  rw [if_neg (by rw [h.1]; simp)]
  split
  · exact h
  · split
    · exact h
    · split
      · exact h
      · exact ⟨h.1, h.2.1, by show (p.fs ++ _).find? _ = _; rw [List.find?_append, h.2.2]; rfl⟩
theorem Has.may {p : DiskP} {nm x : Name} {b : List UInt8} (h : Has p nm b) (g : FileP → DiskP × Int) (hg : ∀ f, Has (g f).1 nm b) : Has (mayP p x g).1 nm b := by
  unfold mayP
  rw [if_neg (by rw [h.1]; simp)]
  split
  · exact h
  · exact hg _
theorem Has.append {p : DiskP} {nm x : Name} {b l : List UInt8} (h : Has p nm b) (hx : x ≠ nm) : Has (appendP p x l).1 nm b := by
  unfold appendP
  refine h.may _ fun f => ?_
  split
  · exact h
  · exact (h.upd (fun f => { f with b := f.b ++ l }) (fun _ => rfl) hx).goes
theorem Has.sync {p : DiskP} {nm x : Name} {b : List UInt8} (h : Has p nm b) (hx : x ≠ nm) : Has (syncP p x).1 nm b := by
  unfold syncP
  refine h.may _ fun f => ?_
  split
  · exact h.goes.upd (fun f => { f with sure := f.b.length }) (fun _ => rfl) hx
  · exact h.goes
theorem Has.cut {p : DiskP} {nm x : Name} {b : List UInt8} {n : Int} (h : Has p nm b) (hx : x ≠ nm) : Has (cutP p x n).1 nm b := by
  unfold cutP
  refine h.may _ fun f => ?_
  split
  · exact h
  · exact h.upd (fun f => { f with b := f.b.take n.toNat, sure := n.toNat }) (fun _ => rfl) hx
theorem find_keep {fs : List FileP} {nm : Name} (q : FileP → Bool) (hq : ∀ f, f.name = nm → q f = true) : (fs.filter q).find? (fun f => f.name = nm) = fs.find? (fun f => f.name = nm) := by
  induction fs with
  | nil => rfl
  | cons f l ih =>
    by_cases e : f.name = nm
    · rw [List.filter_cons_of_pos (hq f e), List.find?_cons, List.find?_cons, decide_eq_true e]
    · rw [List.find?_cons, decide_eq_false e]
      by_cases e2 : q f = true
      · rw [List.filter_cons_of_pos e2, List.find?_cons, decide_eq_false e]; exact ih
      · rw [List.filter_cons_of_neg e2]; exact ih
theorem Has.remove {p : DiskP} {nm x : Name} {b : List UInt8} (h : Has p nm b) (hx : x ≠ nm) : Has (removeP p x).1 nm b := by
  unfold removeP
  refine h.may _ fun f => ⟨h.1, h.2.1, ?_⟩
  show (p.fs.filter _).find? _ = _
  rw [find_keep _ (fun f e => by simp [e]; exact Ne.symm hx)]
  exact h.2.2
theorem Has.rename {p : DiskP} {nm x y : Name} {b : List UInt8} (h : Has p nm b) (hx : x ≠ nm) (hy : y ≠ nm) : Has (renameP p x y).1 nm b := by
  unfold renameP
  refine h.may _ fun f => ?_
  split
  · exact h
  · refine ⟨h.1, h.2.1, ?_⟩
    show (p.fs.filter _ ++ _).find? _ = _
    rw [List.find?_append, find_keep _ (fun f e => by simp [e]; exact ⟨Ne.symm hx, Ne.symm hy⟩), h.2.2]
    rfl
theorem Has.read {p : DiskP} {nm : Name} {b : List UInt8} (h : Has p nm b) : readP p nm = (b, 0) := by
  unfold readP findP
  rw [if_neg (by rw [h.1]; simp), h.2.2]
theorem Has.sure {p : DiskP} {nm : Name} {b : List UInt8} (h : Has p nm b) : sureP p nm = (0, 0) := by
  unfold sureP findP
  rw [if_neg (by rw [h.1]; simp), h.2.2]
/-- A call after which the file is as it was. -/
theorem afterHas {f : Nat} {args : Array Value} {w : World} {B : Nat} {r : DiskR} {x : DiskP → DiskP × Int} {nm : Name} {b : List UInt8} (hx : Has (x r.p).1 nm b) (hr : DiskAt w B r) (hB : B ≤ w.heap.size)
    (h : Calls Try.prog f args w fun e w' => e = .returned (.int .i64 (x r.p).2) ∧ ∃ r', r'.p = (x r.p).1 ∧ DStep B w r w' r') :
    Calls Try.prog f args w fun e w' => ∃ v, e = .returned (.int .i64 v) ∧ ∃ r', Hid (Has r'.p nm b) ∧ DiskAt w' B r' ∧ Hid (r'.d = r.d) ∧ Below B w w' := by
  refine h.mono ?_
  rintro e w' ⟨rfl, r', hr', hs⟩
  exact ⟨_, rfl, r', Lib.hid (by rw [hr']; exact hx), hs.at', Lib.hid hs.d, hs.below hr hB⟩
/-! ### large -/
def weight (x : ActA) : Nat := 1 + x.b.length + x.nm.size + x.tn.size
def weights (l : List ActA) (k : Nat) : Nat := ((l.take k).map weight).sum
theorem weights_succ (l : List ActA) (k : Nat) (h : k < l.length) : weights l (k + 1) = weights l k + weight l[k] := by
  unfold weights
  rw [List.take_succ_eq_append_getElem h, List.map_append, List.sum_append]
  simp
theorem act_at {w : World} {a : Option Addr} {n c : Nat} {l : List ActA} (h : ActRow w a n c l) (k : Nat) (hk : k < l.length) :
    ∃ b o, a = some ⟨b, o, none⟩ ∧ b < w.heap.size ∧ ∀ j (hj : j < (actCells l[k]).length), w.cell? ⟨b, o + k * 6 + j, none⟩ = some (actCells l[k])[j] := RowAt.elem (g := actCells) (sz := 6) (fun _ => rfl) h.1 (by omega) k hk
set_option maxRecDepth 20000 in
set_option maxHeartbeats 2000000 in
theorem large_any (w : World) (a : Option Addr) (n c : Nat) (l : List ActA) (h : ActRow w a n c l) :
    Calls Try.prog 16 #[.slice a n c] w fun e w' => ∃ bb, e = .returned (.bool bb) ∧ Below w.heap.size w w' ∧ (bb = false → n ≤ 200 ∧ weights l n ≤ 20000) := by
  have HN := Lib.hid h.2.1
  have hm := Nat.le_trans h.2.2.1 h.2.2.2.1
  unfold maxLen at hm
  go_enter Try.func16, Try.ntmps16
  go_wp2_with fail
  go_loopg [3, 7] n (fun f v i w' => ∃ k : Nat, k + f = n ∧ i = .int .i64 (k : Int) ∧ v = .int .i64 (weights l k : Int) ∧ weights l k ≤ 20000 ∧ Below w.heap.size w w')
  case atStart => exact ⟨0, by omega, rfl, rfl, by simp [weights], Below.refl _ _⟩
  case round =>
    obtain ⟨k, hk, rfl, rfl, hwk, hb⟩ := hrel
    by_cases hlt : k < n
    · have hkl : k < l.length := by rw [HN.out]; exact hlt
      obtain ⟨b, o, rfl, hbl, hc⟩ := act_at h k hkl
      have hok := h.2.2.2.2 l[k] (List.getElem_mem hkl)
      have HW := Lib.hid (weights_succ l k hkl)
      generalize l[k] = x at hc hok HW
      have h1 : w.cell? ⟨b, o + k * 6 + 1, none⟩ = some (.string x.nm) := hc 1 (show 1 < 6 by omega)
      have h2 : w.cell? ⟨b, o + k * 6 + 2, none⟩ = some (.string x.tn) := hc 2 (show 2 < 6 by omega)
      have h3 : w.cell? ⟨b, o + k * 6 + 3, none⟩ = some (.slice x.ba x.b.length x.bc) := hc 3 (show 3 < 6 by omega)
      have lift : ∀ (i : Nat) (v : Value), w.cell? ⟨b, i, none⟩ = some v → ∀ W, Old wr.drew W → W.cell? ⟨b, i, none⟩ = some v := fun i v hv W hW => by
        rw [(hW : Below wr.drew.heap.size wr.drew W).cell (show b < wr.drew.heap.size from Nat.lt_of_lt_of_le hbl hb.size)]; exact (hb.cell (show b < w.heap.size from hbl)).trans hv
      have L1 := lift _ _ h1
      have L2 := lift _ _ h2
      have L3 := lift _ _ h3
      clear h1 h2 h3 hc lift
      have z1 := hok.nm
      have z2 := hok.tn
      have z3 := hok.bl
      have e1 : IntKind.i64.wrap (1 + (x.b.length : Int)) = 1 + (x.b.length : Int) := by rw [IntKind.wrap_i64]; omega
      have e2 : IntKind.i64.wrap (1 + (x.b.length : Int) + (x.nm.size : Int)) = 1 + (x.b.length : Int) + (x.nm.size : Int) := by rw [IntKind.wrap_i64]; omega
      have e3 : IntKind.i64.wrap (1 + (x.b.length : Int) + (x.nm.size : Int) + (x.tn.size : Int)) = 1 + (x.b.length : Int) + (x.nm.size : Int) + (x.tn.size : Int) := by rw [IntKind.wrap_i64]; omega
      have e4 : IntKind.i64.wrap ((weights l k : Int) + (1 + (x.b.length : Int) + (x.nm.size : Int) + (x.tn.size : Int))) = (weights l (k + 1) : Int) := by rw [HW.out, IntKind.wrap_i64]; unfold weight; omega
      clear hok z1 z2 z3
      go_wp2_with fail
      refine wp_region_old (0 :: 1 :: 2 :: 3 :: 4 :: 5 :: 6 :: 7 :: 8 :: 9 :: 10 :: 11 :: 12 :: 13 :: 14 :: 15 :: 16 :: 17 :: 18 :: 19 :: 20 :: 21 :: 22 :: 23 :: []) (by kernel_rfl) (by kernel_rfl) (fun c a d v w h => by cases d <;> exact h) ?_
      repeat (first | (refine lex_skip rfl (by rfl) ?_; simp only [Act.put, List.setIfInBounds_toArray, List.set]) | (refine lex_quiet (v := ?_) rfl rfl (by rfl) ?_ ?_; rotate_left; (intro W hW; go_simp); (try with_reducible rfl); simp only [Act.put, List.setIfInBounds_toArray, List.set]))
      refine lex_nil ?_
      clear L1 L2 L3 e1 e2 e3 e4
      by_cases hbig : 20000 < weights l (k + 1)
      · have t0 : decide ((20000 : Int) < (weights l (k + 1) : Int)) = true := by simp; omega
        have HB := Lib.hid hbig
        clear hbig
        go_wp2_with fail
        go_ret
        exact ⟨true, rfl, below_step hb (Below.refl _ _).drew, fun e => by cases e⟩
      · have t0 : decide ((20000 : Int) < (weights l (k + 1) : Int)) = false := by simp; omega
        have HB := Lib.hid hbig
        clear hbig
        go_wp2_with fail
        go_roundg (gk - 1)
        case measure => omega
        case rel => exact ⟨k + 1, by omega, by go_num, rfl, by have := HB.out; omega, below_step hb (Below.refl _ _).drew⟩
    · have hkn : k = n := by omega
      go_wp2_with fail
      go_ret
      refine ⟨_, rfl, hb, fun e => ⟨by simp at e; omega, by rw [← hkn]; exact hwk⟩⟩
/-! ### The law -/
theorem actT : AggT Try.prog 44 6 := ⟨⟨_, Try.underlying44, rfl⟩, by kernel_rfl⟩
theorem make_has (nm : Name) (h : okName nm = true) : makeP wk0 nm = (⟨[⟨nm, [], 0⟩], false, false, 0, []⟩, 0) := by
  simp [makeP, wk0, h, findP]
theorem append_has (nm : Name) (b : List UInt8) (h : b.length ≤ 1048576) : appendP ⟨[⟨nm, [], 0⟩], false, false, 0, []⟩ nm b = (⟨[⟨nm, b, 0⟩], false, false, 0, []⟩, 0) := by
  have e : ¬ maxFileN < b.length := by unfold maxFileN; omega
  simp [appendP, mayP, findP, goesP, updP, updF, e]
structure ApartRel (w : World) (nm : Name) (b : List UInt8) (d0 : Nat) (r : DiskR) (w' : World) : Prop where
  has : Hid (Has r.p nm b)
  at' : DiskAt w' w.heap.size r
  d : Hid (r.d = d0)
  below : Below w.heap.size w w'
set_option maxRecDepth 20000 in
set_option maxHeartbeats 4000000 in
theorem diskApart_any (w : World) (name : Name) (a1 a2 : Option Addr) (n1 n2 c1 c2 : Nat) (b : List UInt8) (l : List ActA) (hnz : name.size ≤ maxLen) (hb : BytesAt w a1 b) (hbn : b.length = n1) (h : ActRow w a2 n2 c2 l) :
    Calls Try.prog 4 #[.string name, .slice a1 n1 c1, .slice a2 n2 c2] w fun e w' => e = .returned (.bool true) ∧ Below w.heap.size w w' := by
  have HN := Lib.hid h.2.1
  have HBN := Lib.hid hbn
  clear hbn
  have hm := Nat.le_trans h.2.2.1 h.2.2.2.1
  unfold maxLen at hm
  go_enter Try.func4, Try.ntmps4
  go_wp2_with fail
  refine (large_any w a2 n2 c2 l h).mono ?_
  rintro e w1 ⟨bb, rfl, hb1, hbb⟩
  have wake : ∀ (W : World), Below w.heap.size w W → Calls Try.prog 7 #[] W fun e w' => e = .returned (.bool true) ∧ Below w.heap.size w w' := fun W hW => (wakes_any W).mono (by rintro e w' ⟨h1, h2⟩; exact ⟨h1, below_step hW h2⟩)
  by_cases hg : bb = true ∨ 20000 < n1 ∨ name.size < 1 ∨ 40 < name.size
  · have HG := Lib.hid hg
    clear hg hbb
    cases bb with
    | true =>
      go_wp2_with fail
      refine (wake _ hb1).mono ?_
      rintro e w2 ⟨rfl, hb2⟩
      go_wp2_with fail
      go_ret
      exact ⟨rfl, hb2⟩
    | false =>
      by_cases g1 : 20000 < n1
      · have t0 : decide ((20000 : Int) < (n1 : Int)) = true := by simp; omega
        go_wp2_with fail
        refine (wake _ hb1).mono ?_
        rintro e w2 ⟨rfl, hb2⟩
        go_wp2_with fail
        go_ret
        exact ⟨rfl, hb2⟩
      · have t0 : decide ((20000 : Int) < (n1 : Int)) = false := by simp; omega
        by_cases g2 : name.size < 1
        · have t1 : decide ((name.size : Int) < 1) = true := by simp; omega
          go_wp2_with fail
          refine (wake _ hb1).mono ?_
          rintro e w2 ⟨rfl, hb2⟩
          go_wp2_with fail
          go_ret
          exact ⟨rfl, hb2⟩
        · have t1 : decide ((name.size : Int) < 1) = false := by simp; omega
          have t2 : decide ((40 : Int) < (name.size : Int)) = true := by
            rw [decide_eq_true_iff]
            rcases HG.out with q | q | q | q
            · cases q
            all_goals omega
          go_wp2_with fail
          refine (wake _ hb1).mono ?_
          rintro e w2 ⟨rfl, hb2⟩
          go_wp2_with fail
          go_ret
          exact ⟨rfl, hb2⟩
  · have hbf : bb = false := by cases bb with
      | false => rfl
      | true => exact absurd (.inl rfl) hg
    subst hbf
    have t0 : decide ((20000 : Int) < (n1 : Int)) = false := by simp; omega
    have t1 : decide ((name.size : Int) < 1) = false := by simp; omega
    have t2 : decide ((40 : Int) < (name.size : Int)) = false := by simp; omega
    have hok : okName name = true := by
      unfold okName
      rw [decide_eq_true (show name.size ≠ 0 by omega), decide_eq_true (show name.size ≤ 40 by omega)]
      rfl
    have hn1 : n1 ≤ 20000 := by omega
    have HBB := hbb rfl
    have hbl : b.length ≤ 1048576 := by rw [HBN.out]; omega
    clear hg hbb
    have HBL := Lib.hid hbl
    clear hbl
    go_wp2_with fail
    refine (new_any' _).mono ?_
    rintro e w2 ⟨r0, rfl, hp0, h0, hb2⟩
    replace h0 := h0.lower hb1.size
    replace hb2 := below_step hb1 hb2
    have hz2 := hb2.size
    go_wp2_with fail
    refine (after (x := fun p => makeP p name) hp0 (make_has name hok) h0 hz2 (make_any _ _ r0 name h0 hz2 hnz)).mono ?_
    rintro e w3 ⟨rfl, r1, hp1, h1, hd1, hb3⟩
    replace hb3 := hb2.trans hb3
    have ca := append_any w3 _ r1 name h1 hb3.size hnz a1 n1 c1 b (hb.below hb3) HBN.out (by unfold maxLen; omega)
    rw [hd1.out] at ca
    go_wp2_with fail
    refine (after (x := fun p => appendP p name b) hp1 (append_has name b HBL.out) h1 hb3.size ca).mono ?_
    clear ca
    rintro e w4 ⟨rfl, r2, hp2, h2, hd2, hb4⟩
    replace hb4 := hb3.trans hb4
    obtain ⟨d0, hd0⟩ : ∃ d0, d0 = r0.d := ⟨_, rfl⟩
    have hst : ApartRel w name b d0 r2 w4 := ⟨Lib.hid (by rw [hp2.out]; exact ⟨rfl, rfl, by simp⟩), h2, Lib.hid ((hd2.out.trans hd1.out).trans hd0.symm), hb4⟩
    rw [← hd0]
    clear hd0 hd1 hd2 hp0 hp1 hp2 h0 h1 h2 hb2 hb3 hb4 hz2 t0 t1 t2 hb1
    go_wp2_with fail
    go_loopg [50] n2 (fun f i w' => ∃ (k : Nat) (r : DiskR), k + f = n2 ∧ i = .int .i64 (k : Int) ∧ ApartRel w name b d0 r w')
    case atStart => exact ⟨0, r2, by omega, rfl, hst⟩
    case round =>
      clear hst
      obtain ⟨k, r, hk, rfl, hhas, hat, hd, hbw⟩ := hrel
      by_cases hlt : k < n2
      · have hkl : k < l.length := by rw [HN.out]; exact hlt
        obtain ⟨xb, xo, rfl, hxl, hc⟩ := act_at h k hkl
        have hxok := h.2.2.2.2 l[k] (List.getElem_mem hkl)
        generalize l[k] = x at hc hxok
        have hcw : ∀ j (hj : j < (actCells x).length), wr.cell? ⟨xb, xo + k * 6 + j, none⟩ = some (actCells x)[j] := fun j hj => by rw [hbw.cell (show xb < w.heap.size from hxl)]; exact hc j hj
        have HC := Lib.hid hcw
        clear hc hcw
        go_upto_region 9 with (first | refine wpList_load_as rfl 44 actT (.tmp 52) rfl rfl (v := .agg (actCells x).toArray) rfl HC.out rfl ?_ | refine wpList_store_blk rfl 44 actT (.tmp 9) _ rfl rfl rfl (Blk.new _ _ _) rfl rfl rfl ?_)
        obtain ⟨X, hX⟩ : ∃ X, X = wr.heap.size := ⟨_, rfl⟩
        have hXw : w.heap.size ≤ X := by rw [hX]; exact hbw.size
        rw [← hX]
        refine wp_forget (fun W => Blk W X (actCells x).toArray 44 ∧ DiskAt W w.heap.size r ∧ Below w.heap.size w W) ⟨by rw [hX]; exact (Blk.new _ _ _).setRow _, ?_, by rw [hX]; exact below_setRow (hbw.alloc hbw.size _) hbw.size _⟩ ?_
        · refine (hat.alloc (.cells #[.int .i64 0, .string ⟨#[]⟩, .string ⟨#[]⟩, .slice none 0 0, .int .i64 0, .slice none 0 0] 44)).keep fun y hy => ?_
          have := (hat.lt hy).2
          rw [Go.setRow_other _ _ _ _ (by omega)]
        clear HC hat hbw hX
        rintro W1 ⟨hX1, hat1, hbw1⟩
        have cX := hX1.rule
        unfold actCells at cX
        have hsz1 := hbw1.size
        have hxb := hxok.b
        by_cases e1 : x.nm = name
        · have t1 : (x.nm.toList == name.toList) = true := by rw [beq_name]; simp [e1]
          have HE1 := Lib.hid e1
          clear e1
          go_wp2_with fail
          go_roundg (gk - 1)
          case measure => omega
          case rel => exact ⟨k + 1, r, by omega, by go_num, hhas, hat1, hd, hbw1⟩
        · have t1 : (x.nm.toList == name.toList) = false := by rw [beq_name]; simp [e1]
          have HE1 := Lib.hid e1
          clear e1
          by_cases e2 : x.tn = name
          · have t2 : (x.tn.toList == name.toList) = true := by rw [beq_name]; simp [e2]
            have HE2 := Lib.hid e2
            clear e2
            go_wp2_with fail
            go_roundg (gk - 1)
            case measure => omega
            case rel => exact ⟨k + 1, r, by omega, by go_num, hhas, hat1, hd, hbw1⟩
          · have t2 : (x.tn.toList == name.toList) = false := by rw [beq_name]; simp [e2]
            have HE2 := Lib.hid e2
            clear e2
            go_upto_region 10 with fail
            go_cut [65] (fun v wx => v = .int .i64 x.kind ∧ wx = W1)
            case first =>
              go_wp2_with fail
              go_meet
              case rel => exact ⟨rfl, rfl⟩
            case rest =>
              obtain ⟨rfl, rfl⟩ := hcut
              go_step
              have hzn : x.nm.size ≤ maxLen := by have := hxok.nm; unfold maxLen; omega
              go_cut [138] from 65 (fun v wx => v = undef ∧ ∃ r', ApartRel w name b d0 r' wx)
              case first =>
                by_cases k0 : x.kind = 0
                · have ca := afterHas (x := fun p => makeP p x.nm) (nm := name) (b := b) (hhas.out.make) hat1 hsz1 (make_any wc _ r x.nm hat1 hsz1 hzn)
                  rw [hd.out] at ca
                  go_wp2_with fail
                  refine ca.mono ?_
                  clear ca
                  rintro e w5 ⟨v, rfl, r5, h5, hat5, hd5, hb5⟩
                  go_wp2_with fail
                  go_meet
                  case rel => exact ⟨rfl, r5, h5, hat5, hd5, hbw1.trans hb5⟩
                · by_cases k1 : x.kind = 1
                  · have ca := afterHas (x := fun p => appendP p x.nm x.b) (nm := name) (b := b) (hhas.out.append HE1.out) hat1 hsz1 (append_any wc _ r x.nm hat1 hsz1 hzn x.ba x.b.length x.bc x.b (hxb.below hbw1) rfl (by have := hxok.bl; unfold maxLen; omega))
                    rw [hd.out] at ca
                    go_wp2_with fail
                    refine ca.mono ?_
                    clear ca
                    rintro e w5 ⟨v, rfl, r5, h5, hat5, hd5, hb5⟩
                    go_wp2_with fail
                    go_meet
                    case rel => exact ⟨rfl, r5, h5, hat5, hd5, hbw1.trans hb5⟩
                  · by_cases k2 : x.kind = 2
                    · have ca := afterHas (x := fun p => syncP p x.nm) (nm := name) (b := b) (hhas.out.sync HE1.out) hat1 hsz1 (sync_any wc _ r x.nm hat1 hsz1 hzn)
                      rw [hd.out] at ca
                      go_wp2_with fail
                      refine ca.mono ?_
                      clear ca
                      rintro e w5 ⟨v, rfl, r5, h5, hat5, hd5, hb5⟩
                      go_wp2_with fail
                      go_meet
                      case rel => exact ⟨rfl, r5, h5, hat5, hd5, hbw1.trans hb5⟩
                    · by_cases k5 : x.kind = 5
                      · have ca := afterHas (x := fun p => cutP p x.nm x.n) (nm := name) (b := b) (hhas.out.cut HE1.out) hat1 hsz1 (cut_any wc _ r x.nm x.n hat1 hzn)
                        rw [hd.out] at ca
                        go_wp2_with fail
                        refine ca.mono ?_
                        clear ca
                        rintro e w5 ⟨v, rfl, r5, h5, hat5, hd5, hb5⟩
                        go_wp2_with fail
                        go_meet
                        case rel => exact ⟨rfl, r5, h5, hat5, hd5, hbw1.trans hb5⟩
                      · by_cases k6 : x.kind = 6
                        · have ca := afterHas (x := fun p => removeP p x.nm) (nm := name) (b := b) (hhas.out.remove HE1.out) hat1 hsz1 (remove_any wc _ r x.nm hat1 hzn)
                          rw [hd.out] at ca
                          go_wp2_with fail
                          refine ca.mono ?_
                          clear ca
                          rintro e w5 ⟨v, rfl, r5, h5, hat5, hd5, hb5⟩
                          go_wp2_with fail
                          go_meet
                          case rel => exact ⟨rfl, r5, h5, hat5, hd5, hbw1.trans hb5⟩
                        · by_cases k7 : x.kind = 7
                          · have ca := afterHas (x := fun p => renameP p x.nm x.tn) (nm := name) (b := b) (hhas.out.rename HE1.out HE2.out) hat1 hsz1 (rename_any wc _ r x.nm x.tn hat1 hzn)
                            rw [hd.out] at ca
                            go_wp2_with fail
                            refine ca.mono ?_
                            clear ca
                            rintro e w5 ⟨v, rfl, r5, h5, hat5, hd5, hb5⟩
                            go_wp2_with fail
                            go_meet
                            case rel => exact ⟨rfl, r5, h5, hat5, hd5, hbw1.trans hb5⟩
                          · go_wp2_with fail
                            go_meet
                            case rel => exact ⟨rfl, r, hhas, hat1, hd, hbw1⟩
              case rest =>
                clear hhas hat1 hd hX1 cX hbw1 hsz1
                obtain ⟨rfl, r3, hhas, hat1, hd, hbw1⟩ := hcut
                have hsz3 := hbw1.size
                have cr := read_any _ _ r3 name hat1 hnz
                rw [hd.out, hhas.out.read] at cr
                go_wp2_with fail
                refine cr.mono ?_
                clear cr
                rintro e w5 ⟨ra, rn, rc, rfl, hrn, hown, hb5⟩
                have hat5 := hat1.old hb5
                have cu := sure_any w5 _ r3 name hat5 hnz
                rw [hd.out, hhas.out.sure] at cu
                go_wp2_with fail
                refine cu.mono ?_
                clear cu
                rintro e w6 ⟨rfl, hb6⟩
                have hb05 := below_step hbw1 hb5
                have hb06 := below_step hb05 hb6
                have hat6 := hat5.old hb6
                have hrd : BytesAt w6 ra b := (hown.old hb6).row
                have hrb : BytesAt w6 a1 b := hb.below hb06
                have hst1 : (convert 24 9 (.slice ra rn rc)).run Try.prog w6 = .ok (.string (strOf b)) w6 := run_string_of (P := Try.prog) w6 (c := rc) Try.underlying24 Try.underlying5 Try.underlying9 hrd hrn
                have hst2 : (convert 24 9 (.slice a1 n1 c1)).run Try.prog w6 = .ok (.string (strOf b)) w6 := run_string_of (P := Try.prog) w6 (c := c1) Try.underlying24 Try.underlying5 Try.underlying9 hrb HBN.out
                clear hrd hrb hown hb5 hb6 hat5 hbw1 hat1
                go_wp2_with fail
                go_roundg (gk - 1)
                case measure => omega
                case rel => exact ⟨k + 1, r3, by omega, by go_num, hhas, hat6, hd, hb06⟩
      · have hkn : k = n2 := by omega
        go_wp2_with fail
        refine (wake _ hbw).mono ?_
        rintro e w2 ⟨rfl, hb2⟩
        go_wp2_with fail
        go_ret
        exact ⟨rfl, hb2⟩
end Go.Proofs.Ytojmffpkaihmmaa

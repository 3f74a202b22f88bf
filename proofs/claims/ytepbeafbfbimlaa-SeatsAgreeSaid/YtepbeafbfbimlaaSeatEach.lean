/- The seats, one by one: All's iterator. -/
import Derived.Test.YtepbeafbfbimlaaSeatLog
import Derived.Test.YtepbeafbfbimlaaSeatSort
import Derived.Test.YtepbeafbfbimlaaRangeM
import Derived.Test.YtepbeafbfbimlaaRoundIn
import Derived.Sort.QuietIn
import Derived.Sort.CutIn
import Derived.Shelf.Abstract
import Derived.WalkKit
import Derived.OwnWalkIn
import Derived.TacticsInMore
import Derived.LoopNIn
import Derived.LoopIn
namespace Go.Proofs.Ytepbeafbfbimlaa
open Go.RowKit Go.Shelf Go.Maps
attribute [local go_sem] Oper.semAt_some
set_option linter.unusedVariables false
set_option linter.unusedSimpArgs false

theorem perm_of_sub {α : Type} [DecidableEq α] : ∀ {A B : List α}, A.Nodup → (∀ x ∈ A, x ∈ B) → A.length = B.length → A.Perm B
  | [], B, _, _, h => by
    have : B = [] := List.eq_nil_of_length_eq_zero h.symm
    rw [this]
  | a :: A, B, hn, hs, hl => by
    rw [List.nodup_cons] at hn
    have ha : a ∈ B := hs a (by simp)
    have h1 : B.Perm (a :: B.erase a) := List.perm_cons_erase ha
    refine (List.Perm.cons a (perm_of_sub hn.2 (fun x hx => ?_) ?_)).trans h1.symm
    · have hne : x ≠ a := fun e => hn.1 (e ▸ hx)
      exact (List.mem_erase_of_ne hne).2 (hs x (by simp [hx]))
    · have := h1.length_eq
      simp at this hl
      omega
def leZ (x y : Int) : Bool := decide (x ≤ y)
/-- The connections, rising. -/
def sortS (l : List Seat) : List Int := (l.map Prod.fst).mergeSort leZ
theorem leZ_sorted (l : List Int) : (l.mergeSort leZ).Pairwise fun x y => x ≤ y := by
  have := List.pairwise_mergeSort (le := leZ) (fun a b c h1 h2 => by simp [leZ] at *; omega) (fun a b => by simp [leZ]; omega) l
  exact this.imp fun h => by simpa [leZ] using h
theorem sortS_len (l : List Seat) : (sortS l).length = l.length := by unfold sortS; rw [List.length_mergeSort, List.length_map]
theorem sortS_mem {l : List Seat} {n : Int} : n ∈ sortS l ↔ ∃ x ∈ l, x.1 = n := by
  unfold sortS
  rw [List.mem_mergeSort, List.mem_map]
theorem sortS_lt {l : List Seat} (hn : (l.map Prod.fst).Nodup) : (sortS l).Pairwise fun x y => x < y := by
  have h1 := leZ_sorted (l.map Prod.fst)
  have h2 : ((l.map Prod.fst).mergeSort leZ).Nodup := (List.mergeSort_perm _ _).nodup_iff.2 hn
  exact (h1.and h2).imp fun h => by omega
theorem sort_same {l : List Seat} {ss : List Int} (h : ss.Perm (l.map Prod.fst)) : ss.mergeSort (fun x y => decide (x ≤ y)) = sortS l := by
  refine List.Perm.eq_of_pairwise (le := fun x y => x ≤ y) (fun a b _ _ h1 h2 => by omega) (leZ_sorted ss) (leZ_sorted _) ?_
  exact (List.mergeSort_perm _ _).trans (h.trans (List.mergeSort_perm _ _).symm)
theorem rising_seats (w : World) (B : Nat) (r : SeatsR) (h : SeatsAt w B r) :
    Calls Try.prog 17 #[.map (some r.ma)] w fun e w' => ∃ (a : Option Addr) (c : Nat), e = .returned (.slice a r.l.length c) ∧ Own w' w.heap.size 3 1 a r.l.length c ((sortS r.l).map (Value.int .i64)) ∧ Below w.heap.size w w' := by
  obtain ⟨D, h1, h2, h3, h4⟩ := h.ma.ex
  have hlen := h.len
  rw [List.length_map] at h4
  have hp : (r.l.map Prod.fst).Perm (intKeys D) := by
    obtain ⟨es, rfl, e2, e3⟩ := h1.entries keyI
    refine perm_of_sub h.conns (fun n hn => ?_) ?_
    · obtain ⟨x, hx, rfl⟩ := List.mem_map.1 hn
      have h5 := h3 (keyC x.1)
      rw [(any_key (by simp [keyC, WideAt.IsKeyLit])).2 (by rw [List.map_map]; exact List.mem_map.2 ⟨x, hx, rfl⟩), has_eq] at h5
      obtain ⟨p, hp, he⟩ := List.any_eq_true.1 h5
      have he := WideAt.sameKey_eq he
      exact List.mem_map.2 ⟨p, hp, by rw [he]; rfl⟩
    · rw [List.length_map]
      show r.l.length = (es.map _).length
      rw [List.length_map]
      exact h4.symm
  refine (rising_any r.ma _ D Rt w h1 (by rw [h4]; unfold maxLen; omega) (by rw [h4]; omega)).mono ?_
  rintro e w' ⟨v, ss, rfl, hs, hrow, hnil, hb⟩
  have hpp : ss.Perm (r.l.map Prod.fst) := hs.trans hp.symm
  have hsl : ss.length = r.l.length := by rw [hpp.length_eq, List.length_map]
  rw [sort_same hpp, hsl] at hrow
  rcases hrow.2 with ⟨hv, hz⟩ | ⟨g, cap, cur, hv, h5⟩
  · subst hv
    refine ⟨none, 0, by rw [hz], ?_, hb⟩
    rw [hz] at hrow ⊢
    exact hrow
  · subst hv
    exact ⟨some ⟨g, 0, none⟩, cap, rfl, hrow, hb⟩
/-- What a round leaves: the seats, and all cells but those of F. -/
structure KpS (S F : Nat → Prop) (X Y : World) : Prop where
  size : X.heap.size ≤ Y.heap.size
  keep : ∀ x, S x → Y.heap[x]? = X.heap[x]?
  cells : ∀ x cs t, Blk X x cs t → ¬ F x → Y.heap[x]? = X.heap[x]?
section
variable {S F : Nat → Prop} {X Y Z : World}
theorem KpS.refl : KpS S F X X := ⟨Nat.le_refl _, fun _ _ => rfl, fun _ _ _ _ _ => rfl⟩
theorem KpS.trans (h : KpS S F X Y) (h' : KpS S F Y Z) : KpS S F X Z := ⟨Nat.le_trans h.size h'.size, fun x hx => (h'.keep x hx).trans (h.keep x hx), fun x cs t hb hF => by
  have e := h.cells x cs t hb hF
  exact (h'.cells x cs t (show Blk Y x cs t from e.trans hb) hF).trans e⟩
theorem KpS.below (h : Below X.heap.size X Y) (hS : ∀ x, S x → x < X.heap.size) : KpS S F X Y := ⟨h.size, fun x hx => h.block x (hS x hx), fun x cs t hb _ => h.block x (Blk.lt hb)⟩
theorem KpS.putObj {W : World} {l : Nat} {o : Obj} (o' : Obj) (ho : W.heap[l]? = some o) (hc : o.isCells = false) (hS : ∀ x, S x → x ≠ l) : KpS S F W (W.putObj l o') :=
  ⟨(grownBy_putObj' W l o').size, fun x hx => World.putObj_heap_other (hS x hx), fun x cs t hb _ => World.putObj_heap_other fun e => by
    subst e
    have hb' : W.heap[x]? = _ := hb
    rw [ho] at hb'
    cases hb'
    cases hc⟩
end
/-- What a round is told. -/
def SeatTold (r : SeatsR) (pre : List Seat) (x : Seat) (W : World) : Prop := x ∈ r.l ∧ (sortS r.l)[pre.length]? = some x.1
def encSeat (x : Seat) : Array Value := #[.int .i64 x.1, tokVal x.2]
theorem grown_of_below {W W' : World} (h : Below W.heap.size W W') : W.grownBy W' none := ⟨h.os, h.tape, h.output, h.size, fun k hk _ => h.block k hk⟩
set_option maxRecDepth 100000 in
set_option maxHeartbeats 4000000 in
theorem all1_any (n : Nat) (h1 : 1 ≤ n) (B : Nat) (r : SeatsR) (F : Nat → Prop) (bx : Nat) (w : World) (h : SeatsAt w B r) (hbx : w.cell? ⟨bx, 0, none⟩ = some (.pointer (some ⟨r.s, 0, none⟩))) (hF : ∀ x, F x → x < w.heap.size) :
    SeqStopsM Fence.wide n Try.prog 16 #[.pointer (some ⟨bx, 0, none⟩)] encSeat (SeatTold r) (KpS (fun x => sfoot r x ∨ x = bx) F) (fun xs => xs.length = r.l.length) (fun _ => True) w := fun l J Jx W hW hJ _ hY h0 => by
  have hbl := World.block_lt_of_cell? w _ hbx
  have hcnt := h.len
  have hS : ∀ x, (sfoot r x ∨ x = bx) → x < w.heap.size := fun x hx => hx.elim (fun hx => (h.lt hx).2) (fun hx => hx ▸ hbl)
  refine callsIn_of_wp Try.func16 rfl trivial ?_ rfl
  simp only [Try.ntmps16, List.size_toArray, List.length_cons, List.length_nil, Nat.reduceAdd, Nat.reduceSub, Array.replicate_succ, Array.replicate_zero, List.push_toArray, List.append_toArray, List.nil_append, List.cons_append]
  have hB' : W.cell? ⟨bx, 0, none⟩ = some (.pointer (some ⟨r.s, 0, none⟩)) := (hW.cell (p := ⟨bx, 0, none⟩) hbl).trans hbx
  have hW0 := h.old hW
  have hs := hW0.blk.rule
  unfold seatCells at hs
  have hris := rising_seats W B r hW0
  gi_wp2_with (refine ⟨trivial, ?_⟩; gi_at_call 17; refine (callsIn_wide.2 hris).mono ?_; rintro e W1 ⟨a, c, rfl, hown, hb1⟩)
  clear hris hB' hs
  have hJ1 : J [] W1 := hJ [] W W1 none h0 (grown_of_below hb1) (fun r e => by cases e)
  have hk1 : KpS (fun x => sfoot r x ∨ x = bx) F w W1 := (KpS.below hW hS).trans (KpS.below hb1 fun x hx => Nat.lt_of_lt_of_le (hS x hx) hW.size)
  have hrowF : ∀ x : Addr, a = some x → ¬ F x.block := fun x hx hf => by
    have h1 := hF _ hf
    have h2 := (hown.block_lt hx).1
    have := hW.size
    omega
  have hkeep : ∀ W', KpS (fun x => sfoot r x ∨ x = bx) F W1 W' → Own W' W.heap.size 3 1 a r.l.length c ((sortS r.l).map (Value.int .i64)) := fun W' hk => hown.keepAt fun x hx => by
    obtain ⟨_, _, cur, hb⟩ := hown.block_lt hx
    exact hk.cells _ _ _ hb (hrowF x hx)
  gi_loopw [13] (fun p wr => ∃ (k : Nat) (pre : List Seat), k ≤ r.l.length ∧ p = .int .i64 k ∧ pre.length = k ∧ J pre wr ∧ KpS (fun x => sfoot r x ∨ x = bx) F W1 wr) (fun p _ => r.l.length - (intOf p).toNat)
  case atStart => exact ⟨0, [], Nat.zero_le _, rfl, rfl, hJ1, KpS.refl⟩
  case round =>
    obtain ⟨k, pre, hk, rfl, hpre, hJs, hbw⟩ := hrel
    by_cases hlt : k < r.l.length
    · have hkk := hk1.trans hbw
      have hr : SeatsAt wr B r := h.keep fun x hx => hkk.keep x (.inl hx)
      have hp : wr.cell? ⟨bx, 0, none⟩ = some (.pointer (some ⟨r.s, 0, none⟩)) := (World.cell?_of_block (a := ⟨bx, 0, none⟩) (hkk.keep bx (.inr rfl))).trans hbx
      have hb := hr.blk.rule
      unfold seatCells at hb
      have hsl : k < (sortS r.l).length := by rw [sortS_len]; exact hlt
      obtain ⟨x, hx, hxk⟩ := sortS_mem.1 (List.getElem_mem hsl)
      obtain ⟨rb, ro, e2, hcell⟩ := (hkeep wr hbw).row k (by rw [List.length_map]; exact hsl)
      rw [List.getElem_map, ← hxk] at hcell
      have hlk := hr.look hx false
      simp only [Bool.false_eq_true, if_false] at hlk
      have hm1 : SeatTold r pre x wr := ⟨hx, by rw [hpre, List.getElem?_eq_getElem hsl, hxk]⟩
      obtain ⟨fn, tmps, assign, body, hy, hR⟩ := hY pre x wr hJs hm1
      have HXK := Lib.hid hxk
      subst e2
      clear hxk hm1 hJs
      unfold encSeat at hy
      gi_wp2
      refine hR.mono ?_
      rintro e W3 (⟨rfl, hJ3, hk3⟩ | ⟨rfl, hJx3⟩)
      · gi_wp2
        go_roundw
        case rel => exact ⟨k + 1, pre ++ [x], by omega, by go_num, by simp [hpre], hJ3, hbw.trans hk3⟩
        case measure => simp [intOf]; omega
      · gi_wp2
        refine bodyPost_ret (results_none rfl _ _ _) rfl ?_
        exact ⟨⟨_, rfl⟩, .inr ⟨_, trivial, hJx3⟩⟩
    · obtain rfl : k = r.l.length := by omega
      gi_wp2
      go_end0
      exact ⟨⟨_, rfl⟩, .inl ⟨_, hpre, hJs⟩⟩
end Go.Proofs.Ytepbeafbfbimlaa

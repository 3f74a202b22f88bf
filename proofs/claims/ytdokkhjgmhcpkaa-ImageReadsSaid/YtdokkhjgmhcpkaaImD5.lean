/- The document's reader: a side. -/
import Derived.Test.YtdokkhjgmhcpkaaImD4
import Derived.Test.YtdokkhjgmhcpkaaImWhole
namespace Go.Proofs.Ytdokkhjgmhcpkaa
open Go.RowKit
set_option linter.unusedVariables false
set_option linter.unusedSimpArgs false
set_option maxRecDepth 20000

theorem sideT9 : AggT Try.prog 26 8 := ⟨⟨_, Try.underlying26, rfl⟩, by kernel_rfl⟩
theorem thingT9 : AggT Try.prog 91 4 := ⟨⟨_, Try.underlying91, rfl⟩, by kernel_rfl⟩
theorem OwnInts.setApart {w : World} {B Y : Nat} {s : Sl} {l : List Int} {cs : Array Value} {t : TypeId} (h : OwnInts w B s l) (hy : Blk w Y cs t) (hne : t ≠ 3) (i : Nat) (v : Value) : OwnInts (w.setCell ⟨Y, i, none⟩ v) B s l := ⟨h.1.setCell_apart hy hne i v, (h.1.setCell_apart hy hne i v).row, h.2.2⟩
theorem After.ret {α : Type} {k : Nat} {b : Int} {x : α} (h : -1 ≤ b) : After k b (fun a => .ok (x, a)) x k b := ⟨fun _ => rfl, fun h' => ⟨rfl, by omega, rfl⟩⟩
theorem DStep.setRow {w wr : World} {B k X : Nat} {b : Int} {q : DC} (h : DStep B w q wr k b) (hB : B ≤ w.heap.size) (hX : w.heap.size ≤ X) (hne : X ≠ q.c) (cs : Array Value) : DStep B w q (wr.setRow X cs) k b :=
  ⟨h.at'.keep (Go.setRow_other _ _ _ _ (Ne.symm hne)) (below_setRow (Below.refl _ _) (Nat.le_trans hB hX) _), h.turn.trans (Turn.of_ge (below_setRow (Below.refl _ _) hX _)) fun x hx => .inr hx⟩
theorem DStep.set {w wr : World} {B k X i : Nat} {b : Int} {q : DC} (h : DStep B w q wr k b) (hB : B ≤ w.heap.size) (hX : w.heap.size ≤ X) (hne : X ≠ q.c) (v : Value) : DStep B w q (wr.setCell ⟨X, i, none⟩ v) k b :=
  ⟨h.at'.keep (heap_setCell_other _ _ _ _ (Ne.symm hne)) ((Below.refl _ _).setCell (Nat.le_trans hB hX) _), h.turn.setCell (x := ⟨X, i, none⟩) (.inr hX) v⟩
theorem DStep.blk {wr w' : World} {B k k' X : Nat} {b b' : Int} {q : DC} {cs : Array Value} {t : TypeId} (h : DStep B wr (q.to k b) w' k' b') (hx : Blk wr X cs t) (hne : X ≠ q.c) : Blk w' X cs t := (h.turn.block X hx.lt hne).trans hx
/-- What the units' loop keeps: the reader's block, s (its units grow), the result's block, the lists that were read, and what the rest of the list will make. -/
def UnitsD (w : World) (B B' : Nat) (q : DC) (X R : Nat) (zs : Array Value) (life mana most : Int) (dS hS gS : Sl) (deck hand grave : List Int) (k7 : Nat) (b7 : Int) (N : Nat) (f : Nat) (v5 : Value) (wr : World) : Prop :=
  ∃ (i k : Nat) (b : Int) (a : Option Addr) (c : Nat) (l : List ThingL), i + f = N ∧ v5 = .int .i64 (i : Int) ∧ l.length = i ∧ (∀ x ∈ l, x.wf) ∧ Own wr B' 91 4 a i c (l.flatMap ThingL.cells) ∧
    Blk wr X (sideCells ⟨life, mana, most, deck, hand, grave, [], []⟩ ⟨dS, hS, gS, ⟨a, i, c⟩, nilSl⟩).toArray 26 ∧ Blk wr R zs 26 ∧ OwnInts wr B' dS deck ∧ OwnInts wr B' hS hand ∧ OwnInts wr B' gS grave ∧ B' ≤ wr.heap.size ∧ DStep B w q wr k b ∧
    Hid (∀ m k' b', After k b (rdMany (rdThing q.bs) f) m k' b' → After k7 b7 (rdThings q.bs) (l ++ m) k' b')
set_option maxHeartbeats 4000000 in
theorem side_d (w : World) (B : Nat) (q : DC) (hq : DAt w B q) (hB : B ≤ w.heap.size) :
    Calls Try.prog 30 #[.pointer (some ⟨q.c, 0, none⟩)] w fun e w' => ∃ (p : SideP) (h : SideH) (k : Nat) (b : Int), e = .returned (sideVal p h) ∧ SideOwn w' w.heap.size p h ∧ DStep B w q w' k b ∧ After q.at_ q.bad (rdSide q.bs) p k b := by
  go_enter Try.func30, Try.ntmps30
  go_upto_region 2 with (fail)
  obtain ⟨R, hR⟩ : ∃ x, x = w.heap.size := ⟨_, rfl⟩
  obtain ⟨X, hX⟩ : ∃ x, x = w.heap.size + 1 := ⟨_, rfl⟩
  rw [← hX, ← hR]
  refine wp_forget (fun W => Blk W R (sideCells ⟨0, 0, 0, [], [], [], [], []⟩ nilSH).toArray 26 ∧ Blk W X (sideCells ⟨0, 0, 0, [], [], [], [], []⟩ nilSH).toArray 26 ∧ Below w.heap.size w W) ⟨by rw [hR]; exact Blk.new2 _ _ _ _, by rw [hX]; exact Blk.new2' _ _ _ _, by (try unfold Kept); repeat (first | assumption | exact Below.refl _ _ | exact below_undrew (Below.refl _ _) | exact Below.mono (by assumption) (by first | (simp; done) | (simp; omega) | omega) | refine below_setRow ?_ (by first | (simp; done) | (simp; omega) | omega) _ | refine Below.setCell ?_ (by first | (simp; done) | (simp; omega) | omega) _ | refine Below.alloc ?_ (by first | (simp; done) | (simp; omega) | omega) _ | refine below_drewN ?_ _ | refine Below.drew ?_ | refine below_undrew ?_ | refine below_step ?_ (by assumption))⟩ ?_
  rintro W1 ⟨br1, bx1, hb1⟩
  have hqc : q.c < w.heap.size := hq.blk.lt
  have hRX : w.heap.size ≤ R ∧ w.heap.size ≤ X ∧ R < X ∧ X ≠ q.c ∧ R ≠ q.c := by omega
  obtain ⟨hgR, hgX, hRX, hXc, hRc⟩ := hRX
  clear hR hX
  obtain ⟨B', hB'⟩ : ∃ x, x = W1.heap.size := ⟨_, rfl⟩
  have hXB : X < B' := by rw [hB']; exact bx1.lt
  have hqB : q.c < B' := by omega
  have hwB : w.heap.size ≤ B' := by omega
  have z1 : B' ≤ W1.heap.size := Nat.le_of_eq hB'
  have s1 : DStep B w q W1 q.at_ q.bad := ⟨hq.old hb1 hB, Turn.of_below hb1⟩
  clear hB'
  have hcc : ∀ k b, (q.to k b).c = q.c := fun _ _ => rfl
  have cb := num_d W1 B (q.to q.at_ q.bad) s1.at' (Nat.le_trans hB s1.turn.size)
  rw [hcc] at cb
  have fx := bx1.free
  go_wp2_with fail
  refine cb.mono ?_
  clear cb
  have fx := bx1.free
  rintro e V2 ⟨m2, k2, b2, rfl, t2, g2⟩
  have f2 := wf64_toInt m2
  generalize m2.toInt = life at *
  have u2 := s1.trans t2
  have bx2 := (t2.blk bx1 hXc).set 0 (.int .i64 life)
  have br2 : Blk (V2.setCell ⟨X, 0, none⟩ (.int .i64 life)) R _ _ := (heap_setCell_other _ _ _ _ (Nat.ne_of_lt hRX)).trans (t2.blk br1 hRc)
  have s2 := u2.set (i := 0) hB hgX hXc (.int .i64 life)
  have z2 : B' ≤ (V2.setCell ⟨X, 0, none⟩ (.int .i64 life)).heap.size := by have := t2.turn.size; simp; omega
  have fy := (t2.blk bx1 hXc).free
  have cy : V2.cell? ⟨X, 0, none⟩ = some (.int .i64 0) := (t2.blk bx1 hXc).rule 0
  clear fx s1 bx1 br1 z1 t2 u2
  go_wp2_with fail
  obtain ⟨W2, hW⟩ : ∃ W, W = V2.setCell ⟨X, 0, none⟩ (.int .i64 life) := ⟨_, rfl⟩
  rw [← hW] at bx2 br2 s2 z2  ⊢
  clear hW fy cy
  have cb := num_d W2 B (q.to k2 b2) s2.at' (Nat.le_trans hB s2.turn.size)
  rw [hcc] at cb
  have fx := bx2.free
  clear fx
  refine cb.mono ?_
  clear cb
  have fx := bx2.free
  rintro e V3 ⟨m3, k3, b3, rfl, t3, g3⟩
  have f3 := wf64_toInt m3
  generalize m3.toInt = mana at *
  have u3 := s2.trans t3
  have bx3 := (t3.blk bx2 hXc).set 1 (.int .i64 mana)
  have br3 : Blk (V3.setCell ⟨X, 1, none⟩ (.int .i64 mana)) R _ _ := (heap_setCell_other _ _ _ _ (Nat.ne_of_lt hRX)).trans (t3.blk br2 hRc)
  have s3 := u3.set (i := 1) hB hgX hXc (.int .i64 mana)
  have z3 : B' ≤ (V3.setCell ⟨X, 1, none⟩ (.int .i64 mana)).heap.size := by have := t3.turn.size; simp; omega
  have fy := (t3.blk bx2 hXc).free
  have cy : V3.cell? ⟨X, 1, none⟩ = some (.int .i64 0) := (t3.blk bx2 hXc).rule 1
  clear fx s2 bx2 br2 z2 t3 u3
  go_wp2_with fail
  obtain ⟨W3, hW⟩ : ∃ W, W = V3.setCell ⟨X, 1, none⟩ (.int .i64 mana) := ⟨_, rfl⟩
  rw [← hW] at bx3 br3 s3 z3  ⊢
  clear hW fy cy
  have cb := num_d W3 B (q.to k3 b3) s3.at' (Nat.le_trans hB s3.turn.size)
  rw [hcc] at cb
  have fx := bx3.free
  clear fx
  refine cb.mono ?_
  clear cb
  have fx := bx3.free
  rintro e V4 ⟨m4, k4, b4, rfl, t4, g4⟩
  have f4 := wf64_toInt m4
  generalize m4.toInt = most at *
  have u4 := s3.trans t4
  have bx4 := (t4.blk bx3 hXc).set 2 (.int .i64 most)
  have br4 : Blk (V4.setCell ⟨X, 2, none⟩ (.int .i64 most)) R _ _ := (heap_setCell_other _ _ _ _ (Nat.ne_of_lt hRX)).trans (t4.blk br3 hRc)
  have s4 := u4.set (i := 2) hB hgX hXc (.int .i64 most)
  have z4 : B' ≤ (V4.setCell ⟨X, 2, none⟩ (.int .i64 most)).heap.size := by have := t4.turn.size; simp; omega
  have fy := (t4.blk bx3 hXc).free
  have cy : V4.cell? ⟨X, 2, none⟩ = some (.int .i64 0) := (t4.blk bx3 hXc).rule 2
  clear fx s3 bx3 br3 z3 t4 u4
  go_wp2_with fail
  obtain ⟨W4, hW⟩ : ∃ W, W = V4.setCell ⟨X, 2, none⟩ (.int .i64 most) := ⟨_, rfl⟩
  rw [← hW] at bx4 br4 s4 z4  ⊢
  clear hW fy cy
  have cb := nums_d W4 B (q.to k4 b4) s4.at' (Nat.le_trans hB s4.turn.size)
  rw [hcc] at cb
  have fx := bx4.free
  clear fx
  refine cb.mono ?_
  clear cb
  have fx := bx4.free
  rintro e V5 ⟨deckS, deck, k5, b5, rfl, o5, t5, g5⟩
  replace o5 := o5.lower z4
  have u5 := s4.trans t5
  have bx5 := (t5.blk bx4 hXc).set 3 (.slice deckS.a deckS.n deckS.c)
  have br5 : Blk (V5.setCell ⟨X, 3, none⟩ (.slice deckS.a deckS.n deckS.c)) R _ _ := (heap_setCell_other _ _ _ _ (Nat.ne_of_lt hRX)).trans (t5.blk br4 hRc)
  have s5 := u5.set (i := 3) hB hgX hXc (.slice deckS.a deckS.n deckS.c)
  have z5 : B' ≤ (V5.setCell ⟨X, 3, none⟩ (.slice deckS.a deckS.n deckS.c)).heap.size := by have := t5.turn.size; simp; omega
  have o5 := o5.set ⟨X, 3, none⟩ (.slice deckS.a deckS.n deckS.c) hXB
  have fy := (t5.blk bx4 hXc).free
  have cy : V5.cell? ⟨X, 3, none⟩ = some (.slice none 0 0) := (t5.blk bx4 hXc).rule 3
  clear fx s4 bx4 br4 z4 t5 u5
  go_wp2_with fail
  obtain ⟨W5, hW⟩ : ∃ W, W = V5.setCell ⟨X, 3, none⟩ (.slice deckS.a deckS.n deckS.c) := ⟨_, rfl⟩
  rw [← hW] at bx5 br5 s5 z5 o5 ⊢
  clear hW fy cy
  have cb := nums_d W5 B (q.to k5 b5) s5.at' (Nat.le_trans hB s5.turn.size)
  rw [hcc] at cb
  have fx := bx5.free
  clear fx
  refine cb.mono ?_
  clear cb
  have fx := bx5.free
  rintro e V6 ⟨handS, hand, k6, b6, rfl, o6, t6, g6⟩
  replace o6 := o6.lower z5
  have u6 := s5.trans t6
  have bx6 := (t6.blk bx5 hXc).set 4 (.slice handS.a handS.n handS.c)
  have br6 : Blk (V6.setCell ⟨X, 4, none⟩ (.slice handS.a handS.n handS.c)) R _ _ := (heap_setCell_other _ _ _ _ (Nat.ne_of_lt hRX)).trans (t6.blk br5 hRc)
  have s6 := u6.set (i := 4) hB hgX hXc (.slice handS.a handS.n handS.c)
  have z6 : B' ≤ (V6.setCell ⟨X, 4, none⟩ (.slice handS.a handS.n handS.c)).heap.size := by have := t6.turn.size; simp; omega
  have o5 := (OwnInts.turn o5 t6.turn (fun x hx => by subst hx; exact hqB)).set ⟨X, 4, none⟩ (.slice handS.a handS.n handS.c) hXB
  have o6 := o6.set ⟨X, 4, none⟩ (.slice handS.a handS.n handS.c) hXB
  have fy := (t6.blk bx5 hXc).free
  have cy : V6.cell? ⟨X, 4, none⟩ = some (.slice none 0 0) := (t6.blk bx5 hXc).rule 4
  clear fx s5 bx5 br5 z5 t6 u6
  go_wp2_with fail
  obtain ⟨W6, hW⟩ : ∃ W, W = V6.setCell ⟨X, 4, none⟩ (.slice handS.a handS.n handS.c) := ⟨_, rfl⟩
  rw [← hW] at bx6 br6 s6 z6 o5 o6 ⊢
  clear hW fy cy
  have cb := nums_d W6 B (q.to k6 b6) s6.at' (Nat.le_trans hB s6.turn.size)
  rw [hcc] at cb
  have fx := bx6.free
  clear fx
  refine cb.mono ?_
  clear cb
  have fx := bx6.free
  rintro e V7 ⟨graveS, grave, k7, b7, rfl, o7, t7, g7⟩
  replace o7 := o7.lower z6
  have u7 := s6.trans t7
  have bx7 := (t7.blk bx6 hXc).set 5 (.slice graveS.a graveS.n graveS.c)
  have br7 : Blk (V7.setCell ⟨X, 5, none⟩ (.slice graveS.a graveS.n graveS.c)) R _ _ := (heap_setCell_other _ _ _ _ (Nat.ne_of_lt hRX)).trans (t7.blk br6 hRc)
  have s7 := u7.set (i := 5) hB hgX hXc (.slice graveS.a graveS.n graveS.c)
  have z7 : B' ≤ (V7.setCell ⟨X, 5, none⟩ (.slice graveS.a graveS.n graveS.c)).heap.size := by have := t7.turn.size; simp; omega
  have o5 := (OwnInts.turn o5 t7.turn (fun x hx => by subst hx; exact hqB)).set ⟨X, 5, none⟩ (.slice graveS.a graveS.n graveS.c) hXB
  have o6 := (OwnInts.turn o6 t7.turn (fun x hx => by subst hx; exact hqB)).set ⟨X, 5, none⟩ (.slice graveS.a graveS.n graveS.c) hXB
  have o7 := o7.set ⟨X, 5, none⟩ (.slice graveS.a graveS.n graveS.c) hXB
  have fy := (t7.blk bx6 hXc).free
  have cy : V7.cell? ⟨X, 5, none⟩ = some (.slice none 0 0) := (t7.blk bx6 hXc).rule 5
  clear fx s6 bx6 br6 z6 t7 u7
  go_wp2_with fail
  obtain ⟨W7, hW⟩ : ∃ W, W = V7.setCell ⟨X, 5, none⟩ (.slice graveS.a graveS.n graveS.c) := ⟨_, rfl⟩
  rw [← hW] at bx7 br7 s7 z7 o5 o6 o7 ⊢
  clear hW fy cy
  have cb := count_d W7 B (q.to k7 b7) 25 s7.at' (Nat.le_trans hB s7.turn.size) (by decide) (by decide)
  rw [hcc] at cb
  refine cb.mono ?_
  clear cb
  rintro e W8 ⟨N, k8, b8, rfl, hN, hN0, t8, g8⟩
  have s8 := s7.trans t8
  have bx8 := t8.blk bx7 hXc
  have br8 := t8.blk br7 hRc
  have z8 := Nat.le_trans z7 t8.turn.size
  have o5 := OwnInts.turn o5 t8.turn (fun x hx => by subst hx; exact hqB)
  have o6 := OwnInts.turn o6 t8.turn (fun x hx => by subst hx; exact hqB)
  have o7 := OwnInts.turn o7 t8.turn (fun x hx => by subst hx; exact hqB)
  clear s7 bx7 br7 z7 t8
  have hst : UnitsD w B B' q X R (sideCells ⟨0, 0, 0, [], [], [], [], []⟩ nilSH).toArray life mana most deckS handS graveS deck hand grave k7 b7 N N (.int .i64 0) W8 := ⟨0, k8, b8, none, 0, [], by omega, rfl, rfl, fun x hx => by simp at hx, Own.nil _ _ _ _, bx8, br8, o5, o6, o7, z8, s8, Lib.hid fun m k' b' h => g8.list h⟩
  clear g8 bx8 br8 o5 o6 o7 z8 s8
  go_wp2_with fail
  go_loopg [5] N (UnitsD w B B' q X R (sideCells ⟨0, 0, 0, [], [], [], [], []⟩ nilSH).toArray life mana most deckS handS graveS deck hand grave k7 b7 N)
  case atStart => exact hst
  case round =>
    clear hst
    obtain ⟨i, k, b, a, c, l, hi, rfl, hll, hwf, hown, bx, br, o1, o2, o3, z, hs, haf⟩ := hrel
    have cq := hs.at'.blk.rule
    unfold dcells DC.to at cq
    dsimp only at cq
    have hnil : ∀ m : List ThingL, 0 ≤ b → After k b (rdMany (rdThing q.bs) gk) m k b := fun m h => After.stuck h
    by_cases hlt : i < N
    · have t0 : decide ((i : Int) < (N : Int)) = true := by simp; omega
      by_cases hb : b < 0
      · have t1 : decide (b < 0) = true := by simpa using hb
        go_upto_region 13 with (fail)
        obtain ⟨Y, hY⟩ : ∃ x, x = wr.heap.size := ⟨_, rfl⟩
        rw [← hY]
        refine wp_forget (fun W => Blk W Y #[.int .i64 0, .int .i64 0, .int .i64 0, .bool false] 91 ∧ Below wr.heap.size wr W) ⟨by rw [hY]; exact Blk.new _ _ _, by (try unfold Kept); repeat (first | assumption | exact Below.refl _ _ | exact below_undrew (Below.refl _ _) | exact Below.mono (by assumption) (by first | (simp; done) | (simp; omega) | omega) | refine below_setRow ?_ (by first | (simp; done) | (simp; omega) | omega) _ | refine Below.setCell ?_ (by first | (simp; done) | (simp; omega) | omega) _ | refine Below.alloc ?_ (by first | (simp; done) | (simp; omega) | omega) _ | refine below_drewN ?_ _ | refine Below.drew ?_ | refine below_undrew ?_ | refine below_step ?_ (by assumption))⟩ ?_
        rintro Wa ⟨ya, hba⟩
        have hYB : B' ≤ Y := by omega
        have hYX : Y ≠ X := by omega
        have hYc : Y ≠ q.c := by omega
        have sa : DStep B w q Wa k b := ⟨hs.at'.old hba (Nat.le_trans hB hs.turn.size), hs.turn.trans (Turn.of_below (F := fun x => x = q.c) hba) fun x hx => .inl hx⟩
        replace bx := bx.old hba
        replace br := br.old hba
        replace o1 := OwnInts.old o1 hba
        replace o2 := OwnInts.old o2 hba
        replace o3 := OwnInts.old o3 hba
        have hown0 := hown
        replace hown := hown.old hba
        have za : B' ≤ Wa.heap.size := Nat.le_trans z hba.size
        have hYo : ∀ x : Addr, a = some x → x.block ≠ Y := fun x hx => by have := (hown0.block_lt hx).2.1; omega
        clear hY hs z hba cq hnil hown0
        have cb := num_d Wa B (q.to k b) sa.at' (Nat.le_trans hB sa.turn.size)
        rw [hcc] at cb
        go_wp2_with fail
        refine cb.mono ?_
        clear cb
        rintro e Vb ⟨mb, kb, bb, rfl, tb, hb⟩
        have wfb := wf64_toInt mb
        generalize mb.toInt = uid at *
        have hF : ∀ x, x = q.c → x < B' := fun x hx => by subst hx; exact hqB
        have yv := tb.blk ya hYc
        replace bx : Blk (Vb.setCell ⟨Y, 0, none⟩ (.int .i64 uid)) X _ _ := (heap_setCell_other _ _ _ _ (Ne.symm hYX)).trans (tb.blk bx hXc)
        replace br : Blk (Vb.setCell ⟨Y, 0, none⟩ (.int .i64 uid)) R _ _ := (heap_setCell_other _ _ _ _ (by show R ≠ Y; omega)).trans (tb.blk br hRc)
        replace o1 := OwnInts.setApart (OwnInts.turn o1 tb.turn hF) yv (by decide) 0 (.int .i64 uid)
        replace o2 := OwnInts.setApart (OwnInts.turn o2 tb.turn hF) yv (by decide) 0 (.int .i64 uid)
        replace o3 := OwnInts.setApart (OwnInts.turn o3 tb.turn hF) yv (by decide) 0 (.int .i64 uid)
        replace hown := (Own.turn hown tb.turn hF).keepAt (w' := (Vb.setCell ⟨Y, 0, none⟩ (.int .i64 uid))) fun x hx => heap_setCell_other _ _ _ _ (hYo x hx)
        have fy := yv.free
        have cy : Vb.cell? ⟨Y, 0, none⟩ = some (.int .i64 0) := yv.rule 0
        have yb := yv.set 0 (.int .i64 uid)
        have sb := (sa.trans tb).set (i := 0) hB (Nat.le_trans hwB hYB) hYc (.int .i64 uid)
        have zb : B' ≤ (Vb.setCell ⟨Y, 0, none⟩ (.int .i64 uid)).heap.size := by have := tb.turn.size; simp; omega
        clear sa ya za yv tb
        go_wp2_with fail
        obtain ⟨Wb, hW⟩ : ∃ W, W = Vb.setCell ⟨Y, 0, none⟩ (.int .i64 uid) := ⟨_, rfl⟩
        rw [← hW] at bx br yb sb zb o1 o2 o3 hown ⊢
        clear hW fy cy
        have cb := num_d Wb B (q.to kb bb) sb.at' (Nat.le_trans hB sb.turn.size)
        rw [hcc] at cb
        refine cb.mono ?_
        clear cb
        rintro e Vc ⟨mc, kc, bc, rfl, tc, hc⟩
        have wfc := wf64_toInt mc
        generalize mc.toInt = ucard at *
        have hF : ∀ x, x = q.c → x < B' := fun x hx => by subst hx; exact hqB
        have yv := tc.blk yb hYc
        replace bx : Blk (Vc.setCell ⟨Y, 1, none⟩ (.int .i64 ucard)) X _ _ := (heap_setCell_other _ _ _ _ (Ne.symm hYX)).trans (tc.blk bx hXc)
        replace br : Blk (Vc.setCell ⟨Y, 1, none⟩ (.int .i64 ucard)) R _ _ := (heap_setCell_other _ _ _ _ (by show R ≠ Y; omega)).trans (tc.blk br hRc)
        replace o1 := OwnInts.setApart (OwnInts.turn o1 tc.turn hF) yv (by decide) 1 (.int .i64 ucard)
        replace o2 := OwnInts.setApart (OwnInts.turn o2 tc.turn hF) yv (by decide) 1 (.int .i64 ucard)
        replace o3 := OwnInts.setApart (OwnInts.turn o3 tc.turn hF) yv (by decide) 1 (.int .i64 ucard)
        replace hown := (Own.turn hown tc.turn hF).keepAt (w' := (Vc.setCell ⟨Y, 1, none⟩ (.int .i64 ucard))) fun x hx => heap_setCell_other _ _ _ _ (hYo x hx)
        have fy := yv.free
        have cy : Vc.cell? ⟨Y, 1, none⟩ = some (.int .i64 0) := yv.rule 1
        have yc := yv.set 1 (.int .i64 ucard)
        have sc := (sb.trans tc).set (i := 1) hB (Nat.le_trans hwB hYB) hYc (.int .i64 ucard)
        have zc : B' ≤ (Vc.setCell ⟨Y, 1, none⟩ (.int .i64 ucard)).heap.size := by have := tc.turn.size; simp; omega
        clear sb yb zb yv tc
        go_wp2_with fail
        obtain ⟨Wc, hW⟩ : ∃ W, W = Vc.setCell ⟨Y, 1, none⟩ (.int .i64 ucard) := ⟨_, rfl⟩
        rw [← hW] at bx br yc sc zc o1 o2 o3 hown ⊢
        clear hW fy cy
        have cb := num_d Wc B (q.to kc bc) sc.at' (Nat.le_trans hB sc.turn.size)
        rw [hcc] at cb
        refine cb.mono ?_
        clear cb
        rintro e Vd ⟨md, kd, bd, rfl, td, hd⟩
        have wfd := wf64_toInt md
        generalize md.toInt = uharm at *
        have hF : ∀ x, x = q.c → x < B' := fun x hx => by subst hx; exact hqB
        have yv := td.blk yc hYc
        replace bx : Blk (Vd.setCell ⟨Y, 2, none⟩ (.int .i64 uharm)) X _ _ := (heap_setCell_other _ _ _ _ (Ne.symm hYX)).trans (td.blk bx hXc)
        replace br : Blk (Vd.setCell ⟨Y, 2, none⟩ (.int .i64 uharm)) R _ _ := (heap_setCell_other _ _ _ _ (by show R ≠ Y; omega)).trans (td.blk br hRc)
        replace o1 := OwnInts.setApart (OwnInts.turn o1 td.turn hF) yv (by decide) 2 (.int .i64 uharm)
        replace o2 := OwnInts.setApart (OwnInts.turn o2 td.turn hF) yv (by decide) 2 (.int .i64 uharm)
        replace o3 := OwnInts.setApart (OwnInts.turn o3 td.turn hF) yv (by decide) 2 (.int .i64 uharm)
        replace hown := (Own.turn hown td.turn hF).keepAt (w' := (Vd.setCell ⟨Y, 2, none⟩ (.int .i64 uharm))) fun x hx => heap_setCell_other _ _ _ _ (hYo x hx)
        have fy := yv.free
        have cy : Vd.cell? ⟨Y, 2, none⟩ = some (.int .i64 0) := yv.rule 2
        have yd := yv.set 2 (.int .i64 uharm)
        have sd := (sc.trans td).set (i := 2) hB (Nat.le_trans hwB hYB) hYc (.int .i64 uharm)
        have zd : B' ≤ (Vd.setCell ⟨Y, 2, none⟩ (.int .i64 uharm)).heap.size := by have := td.turn.size; simp; omega
        clear sc yc zc yv td
        go_wp2_with fail
        obtain ⟨Wd, hW⟩ : ∃ W, W = Vd.setCell ⟨Y, 2, none⟩ (.int .i64 uharm) := ⟨_, rfl⟩
        rw [← hW] at bx br yd sd zd o1 o2 o3 hown ⊢
        clear hW fy cy
        have cb := truth_d Wd B (q.to kd bd) sd.at' (Nat.le_trans hB sd.turn.size)
        rw [hcc] at cb
        refine cb.mono ?_
        clear cb
        rintro e Ve ⟨utired, ke, be, rfl, te, he⟩
        have hF : ∀ x, x = q.c → x < B' := fun x hx => by subst hx; exact hqB
        have yv := te.blk yd hYc
        replace bx : Blk (Ve.setCell ⟨Y, 3, none⟩ (.bool utired)) X _ _ := (heap_setCell_other _ _ _ _ (Ne.symm hYX)).trans (te.blk bx hXc)
        replace br : Blk (Ve.setCell ⟨Y, 3, none⟩ (.bool utired)) R _ _ := (heap_setCell_other _ _ _ _ (by show R ≠ Y; omega)).trans (te.blk br hRc)
        replace o1 := OwnInts.setApart (OwnInts.turn o1 te.turn hF) yv (by decide) 3 (.bool utired)
        replace o2 := OwnInts.setApart (OwnInts.turn o2 te.turn hF) yv (by decide) 3 (.bool utired)
        replace o3 := OwnInts.setApart (OwnInts.turn o3 te.turn hF) yv (by decide) 3 (.bool utired)
        replace hown := (Own.turn hown te.turn hF).keepAt (w' := (Ve.setCell ⟨Y, 3, none⟩ (.bool utired))) fun x hx => heap_setCell_other _ _ _ _ (hYo x hx)
        have fy := yv.free
        have cy : Ve.cell? ⟨Y, 3, none⟩ = some (.bool false) := yv.rule 3
        have ye := yv.set 3 (.bool utired)
        have se := (sd.trans te).set (i := 3) hB (Nat.le_trans hwB hYB) hYc (.bool utired)
        have ze : B' ≤ (Ve.setCell ⟨Y, 3, none⟩ (.bool utired)).heap.size := by have := te.turn.size; simp; omega
        clear sd yd zd yv te
        go_upto_region 17 with (fail)
        obtain ⟨We, hW⟩ : ∃ W, W = Ve.setCell ⟨Y, 3, none⟩ (.bool utired) := ⟨_, rfl⟩
        rw [← hW] at bx br ye se ze o1 o2 o3 hown ⊢
        clear hW fy cy
        have fx := bx.free
        have cx6 : We.cell? ⟨X, 6, none⟩ = some (.slice a i c) := bx.rule 6
        obtain ⟨gf, hgf⟩ : ∃ x, gk = x + 1 := ⟨gk - 1, by omega⟩
        have haf6 := haf.out
        rw [hgf] at haf6
        have HAF := Lib.hid (show ∀ m k' b', After ke be (rdMany (rdThing q.bs) gf) m k' b' → After k7 b7 (rdThings q.bs) ((l ++ [⟨uid, ucard, uharm, utired⟩]) ++ m) k' b' from fun m k' b' h => by
          rw [List.append_assoc]
          exact haf6 _ _ _ (After.many (After.seq hb (After.seq hc (After.seq hd (After.seq he (After.ret se.at'.lo))))) h))
        clear haf6 haf hb hc hd he
        have hA := hown.alloc (.cells #[.int .i64 uid, .int .i64 ucard, .int .i64 uharm, .bool utired] 91)
        go_wp2_with (first | refine wpList_load_blk rfl 91 thingT9 (.tmp 6) rfl rfl ye rfl ?_ | (at_builtin; refine wpList_append_row rfl _ _ 24 rfl thingsT2 rfl hA rfl (RowAt.new' _ _ _ _ (by rfl)) (by rfl) (by intro u hu; simp at hu; rcases hu with rfl | rfl | rfl | rfl <;> rfl) (by unfold maxLen; omega) (by omega) (by simp; omega) ?_))
        intro a6 c6 w6 hown6 hg6
        have hal : Below We.heap.size We (We.alloc (.cells #[.int .i64 uid, .int .i64 ucard, .int .i64 uharm, .bool utired] 91)) := (Below.refl _ _).alloc (Nat.le_refl _) _
        have hb6 : Below B' We w6 := hA.grown (hal.mono ze) (Nat.le_refl _) hg6 (by simp; omega)
        have s6 := (se.alloc hB (.cells #[.int .i64 uid, .int .i64 ucard, .int .i64 uharm, .bool utired] 91)).grown hB (hA.lower hwB) hg6 (by decide)
        replace bx : Blk w6 X _ _ := (hb6.block X hXB).trans bx
        replace br : Blk w6 R _ _ := (hb6.block R (by omega)).trans br
        replace o1 := (OwnInts.apart (OwnInts.old o1 hal) hA (by decide) hg6).set ⟨X, 6, none⟩ (.slice a6 (i + 1) c6) hXB
        replace o2 := (OwnInts.apart (OwnInts.old o2 hal) hA (by decide) hg6).set ⟨X, 6, none⟩ (.slice a6 (i + 1) c6) hXB
        replace o3 := (OwnInts.apart (OwnInts.old o3 hal) hA (by decide) hg6).set ⟨X, 6, none⟩ (.slice a6 (i + 1) c6) hXB
        have z6 : B' ≤ w6.heap.size := Nat.le_trans ze hb6.size
        have fx6 := bx.free
        have cy6 : w6.cell? ⟨X, 6, none⟩ = some (.slice a i c) := bx.rule 6
        have hown7 := hown6.setCell_lt ⟨X, 6, none⟩ (.slice a6 (i + 1) c6) hXB
        have bx7' := bx.set 6 (.slice a6 (i + 1) c6)
        have br7' : Blk (w6.setCell ⟨X, 6, none⟩ (.slice a6 (i + 1) c6)) R _ _ := (heap_setCell_other _ _ _ _ (Nat.ne_of_lt hRX)).trans br
        have s7' := s6.set (i := 6) hB hgX hXc (.slice a6 (i + 1) c6)
        clear cx6 fx hA hal hb6 hg6 ye hown se ze hown6
        go_wp2_with fail
        go_roundg gf
        case measure => omega
        case rel =>
          refine ⟨i + 1, ke, be, a6, c6, l ++ [⟨uid, ucard, uharm, utired⟩], by omega, by go_num, by simp [hll], ?_, by simpa [ThingL.cells] using hown7, bx7', br7', o1, o2, o3, by simpa using z6, s7', HAF⟩
          intro x hx
          rcases List.mem_append.1 hx with hx | hx
          · exact hwf x hx
          · rw [List.mem_singleton.1 hx]; exact ⟨wfb, wfc, wfd⟩
      · have t1 : decide (b < 0) = false := by simpa using hb
        have haf6 := haf.out [] k b (hnil [] (by omega))
        rw [List.append_nil] at haf6
        have H7 := Lib.hid haf6
        clear haf haf6 hnil
        go_upto_region 18 with (fail)
        have cb := nums_d wr B (q.to k b) hs.at' (Nat.le_trans hB hs.turn.size)
        rw [hcc] at cb
        go_wp2_with fail
        refine cb.mono ?_
        clear cb
        rintro e V9 ⟨tS, told, k9, b9, rfl, o9, t9, g9⟩
        replace o9 := (o9.lower z).set ⟨X, 7, none⟩ (.slice tS.a tS.n tS.c) hXB
        have bx9 := (t9.blk bx hXc).set 7 (.slice tS.a tS.n tS.c)
        have br9 : Blk (V9.setCell ⟨X, 7, none⟩ (.slice tS.a tS.n tS.c)) R _ _ := (heap_setCell_other _ _ _ _ (Nat.ne_of_lt hRX)).trans (t9.blk br hRc)
        have fy := (t9.blk bx hXc).free
        have cy : V9.cell? ⟨X, 7, none⟩ = some (.slice none 0 0) := (t9.blk bx hXc).rule 7
        go_wp2_with (first | refine wpList_load_blk rfl 26 sideT9 (.tmp 3) rfl rfl bx9 rfl ?_ | refine wpList_store_blk rfl 26 sideT9 (.tmp 2) _ rfl rfl rfl br9 rfl rfl (by rfl) ?_)
        have hF : ∀ x, x = q.c → x < B' := fun x hx => by subst hx; exact hqB
        have hRB : R < B' := by omega
        refine post_blk rfl sideT9 rfl (br9.setRow _) rfl rfl ⟨⟨life, mana, most, deck, hand, grave, l, told⟩, ⟨deckS, handS, graveS, ⟨a, i, c⟩, tS⟩, k9, b9, rfl, ?_, ?_, ?_⟩
        · have P1 := (OwnInts.turn o1 t9.turn hF).set ⟨X, 7, none⟩ (.slice tS.a tS.n tS.c) hXB
          have P2 := (OwnInts.turn o2 t9.turn hF).set ⟨X, 7, none⟩ (.slice tS.a tS.n tS.c) hXB
          have P3 := (OwnInts.turn o3 t9.turn hF).set ⟨X, 7, none⟩ (.slice tS.a tS.n tS.c) hXB
          have ou : OwnThings wr B' ⟨a, i, c⟩ l := ⟨hown, hown.row, hll, hown.le, hown.cap_le, by dsimp only; omega, hwf⟩
          have P4 := (OwnThings.turn ou t9.turn hF).set ⟨X, 7, none⟩ (.slice tS.a tS.n tS.c) hXB
          exact SideOwn.lower (B := B') ⟨f2, f3, f4, P1.setRow R _ hRB, P2.setRow R _ hRB, P3.setRow R _ hRB, P4.setRow R _ hRB, o9.setRow R _ hRB⟩ hwB
        · exact ((hs.trans t9).set hB hgX hXc _).setRow hB hgR hRc _
        · exact After.seq g2 (After.seq g3 (After.seq g4 (After.seq g5 (After.seq g6 (After.seq g7 (After.seq H7.out (After.seq g9 (After.ret t9.at'.lo))))))))
    · have t0 : decide ((i : Int) < (N : Int)) = false := by simp; omega
      have hg0 : gk = 0 := by omega
      have haf6 := haf.out
      rw [hg0] at haf6
      have haf7 := haf6 [] k b (After.none hs.at'.lo)
      rw [List.append_nil] at haf7
      have H7 := Lib.hid haf7
      clear haf haf6 haf7 cq hnil
      go_upto_region 18 with (fail)
      have cb := nums_d wr B (q.to k b) hs.at' (Nat.le_trans hB hs.turn.size)
      rw [hcc] at cb
      go_wp2_with fail
      refine cb.mono ?_
      clear cb
      rintro e V9 ⟨tS, told, k9, b9, rfl, o9, t9, g9⟩
      replace o9 := (o9.lower z).set ⟨X, 7, none⟩ (.slice tS.a tS.n tS.c) hXB
      have bx9 := (t9.blk bx hXc).set 7 (.slice tS.a tS.n tS.c)
      have br9 : Blk (V9.setCell ⟨X, 7, none⟩ (.slice tS.a tS.n tS.c)) R _ _ := (heap_setCell_other _ _ _ _ (Nat.ne_of_lt hRX)).trans (t9.blk br hRc)
      have fy := (t9.blk bx hXc).free
      have cy : V9.cell? ⟨X, 7, none⟩ = some (.slice none 0 0) := (t9.blk bx hXc).rule 7
      go_wp2_with (first | refine wpList_load_blk rfl 26 sideT9 (.tmp 3) rfl rfl bx9 rfl ?_ | refine wpList_store_blk rfl 26 sideT9 (.tmp 2) _ rfl rfl rfl br9 rfl rfl (by rfl) ?_)
      have hF : ∀ x, x = q.c → x < B' := fun x hx => by subst hx; exact hqB
      have hRB : R < B' := by omega
      refine post_blk rfl sideT9 rfl (br9.setRow _) rfl rfl ⟨⟨life, mana, most, deck, hand, grave, l, told⟩, ⟨deckS, handS, graveS, ⟨a, i, c⟩, tS⟩, k9, b9, rfl, ?_, ?_, ?_⟩
      · have P1 := (OwnInts.turn o1 t9.turn hF).set ⟨X, 7, none⟩ (.slice tS.a tS.n tS.c) hXB
        have P2 := (OwnInts.turn o2 t9.turn hF).set ⟨X, 7, none⟩ (.slice tS.a tS.n tS.c) hXB
        have P3 := (OwnInts.turn o3 t9.turn hF).set ⟨X, 7, none⟩ (.slice tS.a tS.n tS.c) hXB
        have ou : OwnThings wr B' ⟨a, i, c⟩ l := ⟨hown, hown.row, hll, hown.le, hown.cap_le, by dsimp only; omega, hwf⟩
        have P4 := (OwnThings.turn ou t9.turn hF).set ⟨X, 7, none⟩ (.slice tS.a tS.n tS.c) hXB
        exact SideOwn.lower (B := B') ⟨f2, f3, f4, P1.setRow R _ hRB, P2.setRow R _ hRB, P3.setRow R _ hRB, P4.setRow R _ hRB, o9.setRow R _ hRB⟩ hwB
      · exact ((hs.trans t9).set hB hgX hXc _).setRow hB hgR hRc _
      · exact After.seq g2 (After.seq g3 (After.seq g4 (After.seq g5 (After.seq g6 (After.seq g7 (After.seq H7.out (After.seq g9 (After.ret t9.at'.lo))))))))
end Go.Proofs.Ytdokkhjgmhcpkaa

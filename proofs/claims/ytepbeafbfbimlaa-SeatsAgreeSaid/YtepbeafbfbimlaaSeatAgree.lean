/- Whoever is logged in is found by name and by connection; never more are there than may be; connections rise. -/
import Derived.Test.YtepbeafbfbimlaaSeatNil
import Derived.Test.YtepbeafbfbimlaaSeatCame
namespace Go.Proofs.Ytepbeafbfbimlaa
open Go.RowKit Go.Shelf Go.Maps
attribute [local go_sem] Oper.semAt_some
set_option linter.unusedVariables false
set_option linter.unusedSimpArgs false

/-- The acts' loop. -/
def AgrL (w : World) (R S : Nat) (most : Int) (n : Nat) (f : Nat) (v6 : Value) (wr : World) : Prop :=
  ∃ (k : Nat) (r : SeatsR), k + f = n ∧ v6 = .int .i64 (k : Int) ∧ SeatsAt wr w.heap.size r ∧ r.most = most ∧ Blk wr S #[.pointer (some ⟨r.s, 0, none⟩)] 25 ∧ Blk wr R #[.bool false] 4 ∧ Below w.heap.size w wr
theorem AgrL.step {w wr w' : World} {R S : Nat} {most : Int} {n f k : Nat} {r r' : SeatsR} (hk : k + 1 + f = n) (hs : SeatsAt wr w.heap.size r) (hm : r.most = most) (bs : Blk wr S #[.pointer (some ⟨r.s, 0, none⟩)] 25) (br : Blk wr R #[.bool false] 4) (hb : Below w.heap.size w wr) (h : SStep w.heap.size wr r w' r') : AgrL w R S most n f (.int .i64 ((k + 1 : Nat) : Int)) w' := by
  refine ⟨k + 1, r', hk, rfl, h.at', h.same.2.2.2.trans hm, ?_, ?_, hb.trans (h.below hs hb.size)⟩
  · rw [h.same.1]
    exact (h.turn.block S bs.lt (by rintro (e | e); exact bs.ne_gmap hs.ma e; exact bs.ne_gmap hs.mb e)).trans bs
  · exact (h.turn.block R br.lt (by rintro (e | e); exact br.ne_gmap hs.ma e; exact br.ne_gmap hs.mb e)).trans br
/-- Where the last loop stands. -/
def lastV (r : SeatsR) (k : Nat) : Int := if k = 0 then -1 else ((sortS r.l)[k - 1]?).getD 0
structure AgrIn (w : World) (r : SeatsR) (R S N L C : Nat) (k : Nat) (W : World) : Prop where
  ptr : Blk W S #[.pointer (some ⟨r.s, 0, none⟩)] 25
  res : Blk W R #[.bool false] 4
  cnt : Blk W N #[.int .i64 (k : Int)] 3
  last : Blk W L #[.int .i64 (lastV r k)] 3
  seats : SeatsAt W w.heap.size r
  below : Below w.heap.size w W
  big : C ≤ W.heap.size
theorem AgrIn.own {w0 : World} (w : World) (r : SeatsR) (R S N L C : Nat) (h0 : SeatsAt w0 w.heap.size r) (hC : w0.heap.size ≤ C) (hw : w.heap.size ≤ C) {α : Type} (f : α → Nat) : OwnFrom C (fun (s : α) W => AgrIn w r R S N L C (f s) W) :=
  fun s X Y row hs hg hr => by
    have hr' : ∀ r, row = some r → ∃ o : Obj, X.heap[r]? = some o ∧ o.isCells = false := fun r e => (hr r e).2
    exact ⟨(blk_kept hs.ptr hg hr').trans hs.ptr, (blk_kept hs.res hg hr').trans hs.res, (blk_kept hs.cnt hg hr').trans hs.cnt, (blk_kept hs.last hg hr').trans hs.last, SeatsAt.from _ r h0 hC hs.seats hg hr, hs.below.grown hg (by have := hs.below.size; omega) (fun r e => by have := (hr r e).1; omega), Nat.le_trans hs.big hg.size⟩
theorem AgrIn.old {w : World} {r : SeatsR} {R S N L C k : Nat} {W W' : World} (h : AgrIn w r R S N L C k W) (hb : Below W.heap.size W W') : AgrIn w r R S N L C k W' :=
  ⟨h.ptr.old hb, h.res.old hb, h.cnt.old hb, h.last.old hb, h.seats.old hb, below_step h.below hb, Nat.le_trans h.big hb.size⟩
theorem neq_tok (t : TokL) (w : World) : (binOp .neq 24 (.agg #[.string t.name, .int .i8 t.role, .int .i64 t.til]) (.agg #[.string t.name, .int .i8 t.role, .int .i64 t.til])).run Try.prog w = .ok (.bool false) w := by
  have m1 : Try.prog.eqGuardType Try.prog.depth 24 = false := by kernel_rfl
  have m2 : Try.prog.stoodInHeld 24 = false := by kernel_rfl
  go_simp
set_option maxRecDepth 100000 in
set_option maxHeartbeats 8000000 in
theorem seatsAgree_any (w : World) (m : Int) (hm1 : -9223372036854775808 ≤ m) (hm2 : m ≤ 9223372036854775807) (a : Option Addr) (n c : Nat) (l : List ActS) (hl : ActRow w a n c l) :
    Calls Try.prog 4 #[.int .i64 m, .slice a n c] w fun e w' => e = .returned (.bool true) ∧ Below w.heap.size w w' := by
  obtain ⟨hrow, hll, hle, hcm, hok⟩ := hl
  refine (callsIn_wide (n := 3)).1 ?_
  have h1 : 1 ≤ 3 := by omega
  refine callsIn_of_wp_marks Try.func4 rfl trivial (wpIn_mono ?_ noPanic_mono) rfl
  refine wpIn_wide.2 ?_
  simp only [Try.ntmps4, List.size_toArray, List.length_cons, List.length_nil, Nat.reduceAdd, Nat.reduceSub, Array.replicate_succ, Array.replicate_zero, List.push_toArray, List.append_toArray, List.nil_append, List.cons_append]
  go_upto_region 1 with (fail)
  obtain ⟨R, hR⟩ : ∃ x, x = w.heap.size := ⟨_, rfl⟩
  rw [← hR]
  refine wp_forget (fun W => Blk W R #[.bool false] 4 ∧ Below w.heap.size w W) ⟨by rw [hR]; exact Blk.new _ _ _, by (try unfold Kept); repeat (first | assumption | exact Below.refl _ _ | exact below_undrew (Below.refl _ _) | exact Below.mono (by assumption) (by first | (simp; done) | (simp; omega) | omega) | refine below_setRow ?_ (by first | (simp; done) | (simp; omega) | omega) _ | refine Below.setCell ?_ (by first | (simp; done) | (simp; omega) | omega) _ | refine Below.alloc ?_ (by first | (simp; done) | (simp; omega) | omega) _ | refine below_drewN ?_ _ | refine Below.drew ?_ | refine below_undrew ?_ | refine below_step ?_ (by assumption))⟩ ?_
  rintro W1 ⟨br, hb1⟩
  have hRw : w.heap.size ≤ R := Nat.le_of_eq hR.symm
  clear hR
  have fr := br.free
  have cr := br.rule 0
  by_cases hn : 100 < n
  · have d1 : decide ((100 : Int) < (n : Int)) = true := by simp; omega
    go_wp2_with fail
    refine (wakes_any W1).mono ?_
    rintro e W2 ⟨rfl, hb2⟩
    replace br := br.old hb2
    clear fr cr
    have fr := br.free
    have cr := br.rule 0
    go_wp2_with fail
    have hc9 := (br.set 0 (.bool true)).rule 0
    refine ⟨.bool true, ?_, rfl, ?_⟩
    · simp at hc9
      simp [results, Try.f4, go_sem, hc9]
    · exact (below_step hb1 hb2).setCell hRw _
  have d1 : decide ((100 : Int) < (n : Int)) = false := by simp; omega
  go_wp2_with fail
  refine (new_any W1 m hm1 hm2).mono ?_
  rintro e W2 ⟨r0, rfl, hs2, hl2, hmo, hb2⟩
  replace br := br.old hb2
  clear fr cr
  go_upto_region 4 with (fail)
  obtain ⟨S, hS⟩ : ∃ x, x = W2.heap.size := ⟨_, rfl⟩
  rw [← hS]
  refine wp_forget (fun W => Blk W S #[.pointer (some ⟨r0.s, 0, none⟩)] 25 ∧ Below W2.heap.size W2 W) ⟨?_, ?_⟩ ?_
  · rw [hS]; exact Blk.new _ _ _
  · exact (Below.refl _ _).alloc (Nat.le_refl _) _
  rintro W3 ⟨bs, hb3⟩
  replace br := br.old hb3
  have hst : AgrL w R S r0.most n n (.int .i64 0) W3 := ⟨0, r0, by omega, rfl, (hs2.old hb3).lower hb1.size, rfl, bs, br, below_step (below_step hb1 hb2) hb3⟩
  have hSw : w.heap.size ≤ S := by have := hb1.size; have := hb2.size; omega
  clear hb3 br bs hs2 hl2 hS hb2 hb1
  obtain ⟨most, hmost⟩ : ∃ x, x = r0.most := ⟨_, rfl⟩
  rw [← hmost] at hst hmo
  clear hmost
  go_wp2_with fail
  go_loopg [6] n (AgrL w R S most n)
  case atStart => exact hst
  case round =>
    clear hst
    obtain ⟨k, r, hk, rfl, hs, hm, bs, br, hb⟩ := hrel
    by_cases hlt : k < n
    · have t0 : decide ((k : Int) < (n : Int)) = true := by simp; omega
      obtain ⟨gf, hgf⟩ : ∃ x, gk = x + 1 := ⟨gk - 1, by omega⟩
      obtain ⟨b, o, hab, hbl, hc⟩ := RowAt.elem (g := actCells) (sz := 6) (fun _ => rfl) hrow (by omega) k (by omega)
      have hokx := hok _ (List.getElem_mem (show k < l.length by omega))
      generalize l[k]'(by omega) = x at hc hokx
      have hcw : ∀ (W : World), W.heap[b]? = wr.heap[b]? → ∀ j (hj : j < (actCells x).length), W.cell? ⟨b, o + k * 6 + j, none⟩ = some (actCells x)[j] := fun W hW j hj => by
        have h2 : W.heap[b]? = w.heap[b]? := hW.trans (hb.block b hbl)
        exact (World.cell?_of_block (a := ⟨b, o + k * 6 + j, none⟩) h2).trans (hc j hj)
      have hcell : ∀ (W : World), W.heap[b]? = wr.heap[b]? → W.cell? ⟨b, o + k * 6, none⟩ = some (.int .i64 x.kind) ∧ W.cell? ⟨b, o + k * 6 + 1, none⟩ = some (.int .i64 x.conn) ∧ W.cell? ⟨b, o + k * 6 + 2, none⟩ = some (.string x.t.name) ∧ W.cell? ⟨b, o + k * 6 + 2 + 1, none⟩ = some (.int .i8 x.t.role) ∧ W.cell? ⟨b, o + k * 6 + 2 + 2, none⟩ = some (.int .i64 x.t.til) ∧ W.cell? ⟨b, o + k * 6 + 5, none⟩ = some (.int .i64 x.now) := fun W hW =>
        ⟨hcw W hW 0 (by simp [actCells]), hcw W hW 1 (by simp [actCells]), hcw W hW 2 (by simp [actCells]), hcw W hW 3 (by simp [actCells]), hcw W hW 4 (by simp [actCells]), hcw W hW 5 (by simp [actCells])⟩
      clear hcw hc
      obtain ⟨e0, -⟩ := hcell wr rfl
      subst hab
      have hbS : b ≠ S := by omega
      have hkp : ∀ (W : World), KeepAt (fun y => y = S ∨ y = b) wr.drew W → W.heap[b]? = wr.heap[b]? := fun W hW => hW.2 b (.inr rfl)
      have L1 := fun W (hW : KeepAt (fun y => y = S ∨ y = b) wr.drew W) => (show Blk W S #[.pointer (some ⟨r.s, 0, none⟩)] 25 from (hW.2 S (.inl rfl)).trans bs).rule 0
      simp at L1
      have L2 := fun W (hW : KeepAt (fun y => y = S ∨ y = b) wr.drew W) => (hcell W (hkp W hW)).2.1
      have L3 := fun W (hW : KeepAt (fun y => y = S ∨ y = b) wr.drew W) => (hcell W (hkp W hW)).2.2.1
      have L4 := fun W (hW : KeepAt (fun y => y = S ∨ y = b) wr.drew W) => (hcell W (hkp W hW)).2.2.2.1
      have L5 := fun W (hW : KeepAt (fun y => y = S ∨ y = b) wr.drew W) => (hcell W (hkp W hW)).2.2.2.2.1
      have L6 := fun W (hW : KeepAt (fun y => y = S ∨ y = b) wr.drew W) => (hcell W (hkp W hW)).2.2.2.2.2
      have hsd : SeatsAt wr.drew w.heap.size r := hs.keep fun _ _ => rfl
      have keepS : ∀ {w' : World} {r' : SeatsR}, SStep w.heap.size wr.drew r w' r' → KeepAt (fun y => y = S ∨ y = b) wr.drew w' := fun {w' r'} h => ⟨h.turn.size, fun y hy => h.turn.block y (by
        show y < wr.heap.size
        rcases hy with rfl | rfl
        · exact bs.lt
        · have := hb.size; omega) (by
        rcases hy with rfl | rfl
        · rintro (e | e)
          · exact bs.ne_gmap hs.ma e
          · exact bs.ne_gmap hs.mb e
        · rintro (e | e)
          · have := hs.ge.2.1; omega
          · have := hs.ge.2.2.1; omega)⟩
      by_cases h1k : x.kind = 1
      · have g1 : decide (x.kind = 1) = true := by simpa using h1k
        go_upto_region 8 with (fail)
        have cl : Calls Try.prog 8 #[.pointer (some ⟨r.s, 0, none⟩), .int .i64 x.conn] wr.drew fun e w' => (∃ c, e = .returned (.int .i64 c)) ∧ ∃ r', SStep w.heap.size wr.drew r w' r' := by
          by_cases hx : ∃ y ∈ r.l, y.1 = x.conn
          · obtain ⟨y, hy, hyc⟩ := hx
            rw [← hyc]
            refine (logout_in wr.drew w.heap.size r hsd hy).mono ?_
            rintro e w' ⟨rfl, h⟩
            exact ⟨⟨_, rfl⟩, _, h⟩
          · refine (logout_no wr.drew w.heap.size r hsd hokx.conn fun y hy e => hx ⟨y, hy, e⟩).mono ?_
            rintro e w' ⟨rfl, h⟩
            exact ⟨⟨_, rfl⟩, _, SStep.quiet hsd h⟩
        refine wp_region_treeR false (KeepAt (fun y => y = S ∨ y = b)) (KeepAt.refl _) (fun _ _ _ h1 h2 => KeepAt.trans h1 h2) (.step 0 (.step 1 (.step 2 (.step 3 (.step 4 (.step 5 (.step 6 .done))))))) (by kernel_rfl) (by kernel_rfl) (fun c a d v w h => by cases d <;> exact h) ?_
        repeat (first | (refine tree_skip rfl (by rfl) ?_; simp only [Act.put, List.setIfInBounds_toArray, List.set]) | (refine tree_quiet (v := ?_) rfl rfl (by rfl) ?_ ?_; rotate_left; (intro W hW; go_simp); (try with_reducible rfl); simp only [Act.put, List.setIfInBounds_toArray, List.set]))
        refine tree_loud rfl rfl (by rfl) (fun K hK => ?_)
        go_wp2_with fail
        refine cl.mono ?_
        rintro e w5 ⟨⟨c5, rfl⟩, r5, s5⟩
        have s6 : SStep w.heap.size wr r w5 r5 := ⟨s5.at', s5.turn.off, s5.same⟩
        refine hK _ _ (keepS s5) ?_
        clear hK K L1 L2 L3 L4 L5 L6
        refine tree_done ?_
        go_wp2_with fail
        go_roundg gf
        case measure => omega
        case rel => exact AgrL.step (by omega) hs hm bs br hb s6
      · have g1 : decide (x.kind = 1) = false := by simpa using h1k
        go_upto_region 9 with (fail)
        have cl := login_any wr.drew w.heap.size r hsd hb.size x.conn x.t x.now hokx.conn hokx.t
        unfold tokVal tokCells at cl
        generalize loginP r.most r.l x.conn x.t x.now = lp at cl
        refine wp_region_treeR false (KeepAt (fun y => y = S ∨ y = b)) (KeepAt.refl _) (fun _ _ _ h1 h2 => KeepAt.trans h1 h2) (.step 0 (.step 1 (.step 2 (.step 3 (.step 4 (.step 5 (.step 6 (.step 7 (.step 8 (.step 9 (.step 10 (.step 11 (.step 12 (.step 13 (.step 14 (.step 15 (.step 16 .done))))))))))))))))) (by kernel_rfl) (by kernel_rfl) (fun c a d v w h => by cases d <;> exact h) ?_
        repeat (first | (refine tree_skip rfl (by rfl) ?_; simp only [Act.put, List.setIfInBounds_toArray, List.set]) | (refine tree_quiet (v := ?_) rfl rfl (by rfl) ?_ ?_; rotate_left; (intro W hW; go_simp); (try with_reducible rfl); simp only [Act.put, List.setIfInBounds_toArray, List.set]))
        refine tree_loud rfl rfl (by rfl) (fun K hK => ?_)
        go_wp2_with fail
        refine cl.mono ?_
        rintro e w5 ⟨rfl, s5⟩
        have s6 : SStep w.heap.size wr r w5 _ := ⟨s5.at', s5.turn.off, s5.same⟩
        refine hK _ _ (keepS s5) ?_
        clear hK K L1 L2 L3 L4 L5 L6
        refine tree_done ?_
        go_wp2_with fail
        go_roundg gf
        case measure => omega
        case rel => exact AgrL.step (by omega) hs hm bs br hb s6
    · have t0 : decide ((k : Int) < (n : Int)) = false := by simp; omega
      go_upto_region 10 with (fail)
      go_upto_region 11 with (fail)
      obtain ⟨N, hN⟩ : ∃ y, y = wr.heap.size := ⟨_, rfl⟩
      obtain ⟨L, hL⟩ : ∃ y, y = wr.heap.size + 1 := ⟨_, rfl⟩
      rw [← hL, ← hN]
      refine wp_forget (fun W => Blk W N #[.int .i64 0] 3 ∧ Blk W L #[.int .i64 (-1)] 3 ∧ Below wr.heap.size wr W) ⟨by rw [hN]; exact Blk.new2 _ _ _ _, by rw [hL]; exact Blk.new2' _ _ _ _, by (try unfold Kept); repeat (first | assumption | exact Below.refl _ _ | exact below_undrew (Below.refl _ _) | exact Below.mono (by assumption) (by first | (simp; done) | (simp; omega) | omega) | refine below_setRow ?_ (by first | (simp; done) | (simp; omega) | omega) _ | refine Below.setCell ?_ (by first | (simp; done) | (simp; omega) | omega) _ | refine Below.alloc ?_ (by first | (simp; done) | (simp; omega) | omega) _ | refine below_drewN ?_ _ | refine Below.drew ?_ | refine below_undrew ?_ | refine below_step ?_ (by assumption))⟩ ?_
      rintro W4 ⟨bN, bL, hb4⟩
      have hNw : w.heap.size ≤ N := by have := hb.size; omega
      have hLw : w.heap.size ≤ L := by have := hb.size; omega
      have hNL : N ≠ L := by omega
      have hSN : S ≠ N ∧ S ≠ L := by have := bs.lt; omega
      have hRN : R ≠ N ∧ R ≠ L := by have := br.lt; omega
      replace bs := bs.old hb4
      replace br := br.old hb4
      replace hs := hs.old hb4
      replace hb := below_step hb hb4
      clear hN hL hb4 hrow hok
      have cS := bs.rule 0
      simp at cS
      have heq : ∀ (fn : Fn) (first cap : Array Value) (w : World), (binOp .eql 44 (.func fn first cap) .nilFunc).run Try.prog w = .ok (.bool false) w := fun fn first cap w => by rfl
      go_wp2_with fail
      refine (all_any W4 _).mono ?_
      rintro e W5 ⟨rfl, hW5⟩
      go_upto_region 14 with (fail)
      obtain ⟨X, hX⟩ : ∃ y, y = W4.heap.size := ⟨_, rfl⟩
      rw [← hX]
      refine wp_forget (fun W => Blk W X #[.pointer (some ⟨r.s, 0, none⟩)] 25 ∧ Below W4.heap.size W4 W) ⟨by rw [hX]; exact Blk.new _ _ _, (Below.refl _ _).alloc (Nat.le_refl _) _⟩ ?_
      rintro W6 ⟨bX, hb6⟩
      have hXN : X ≠ N ∧ X ≠ L ∧ X ≠ S ∧ X ≠ R := by have := bN.lt; have := bL.lt; have := bs.lt; have := br.lt; omega
      replace bs := bs.old hb6
      replace br := br.old hb6
      replace bN := bN.old hb6
      replace bL := bL.old hb6
      replace hs := hs.old hb6
      replace hb := below_step hb hb6
      clear hX hb6 cS
      have cX := bX.rule 0
      simp at cX
      have hlen16 := hs.len
      go_wp2_with fail
      refine (wpIn_wide (n := 3)).1 ?_
      refine wpIn_rangeFunc_ownT rfl h1 (gf := 16) (lb := #[.pointer (some ⟨X, 0, none⟩)]) rfl trivial (enters_of Try.func16 (by kernel_rfl) rfl)
        (all1_any 2 (by omega) w.heap.size r (fun y => y = N ∨ y = L) X W6 hs cX (fun y hy => by rcases hy with rfl | rfl; exact bN.lt; exact bL.lt)) (fun p X Y row hp _ _ => hp) (fun h h' => h.trans h') (fun W l o o' hlo ho hc _ => KpS.putObj o' ho hc fun y hy => by
          rcases hy with hy | hy
          · have := (hs.lt hy).2; omega
          · have := bX.lt; omega) (Below.refl _ _) (fun _ => rfl)
        (fun pre W => AgrIn w r R S N L W6.heap.size pre.length W)
        (fun c pre W => False)
        (AgrIn.own w r R S N L W6.heap.size hs (Nat.le_refl _) hb.size List.length)
        (fun c s X Y row hs hg hr => hs) ?start
        ?f (fun y T W => w.heap.size ≤ T ∧ Blk W T (tokCells y.2).toArray 24) (fun p X Y row hp hg hr => by
          obtain ⟨hT, hb⟩ := hp
          exact ⟨hT, (blk_kept hb hg fun q e => (hr q e).2).trans hb⟩) ?assign ?body ?done ?stop
      case start => exact ⟨bs, br, bN, bL, hs, hb, Nat.le_refl _⟩
      case assign =>
        intro l pre y W K hI hM hK
        unfold encSeat tokVal tokCells
        gi_wp2
        have hb0 : Below W.heap.size W (W.alloc (.cells #[.string y.2.name, .int .i8 y.2.role, .int .i64 y.2.til] 24)) := (Below.refl _ _).alloc (Nat.le_refl _) _
        have bn : Blk (W.alloc (.cells #[.string y.2.name, .int .i8 y.2.role, .int .i64 y.2.til] 24)) W.heap.size (tokCells y.2).toArray 24 := Blk.new W (tokCells y.2).toArray _
        refine (fun T (hT : T = W.heap.size) => ?_) W.heap.size rfl
        rw [← hT]
        refine hK T _ ⟨by rw [hT]; exact hI.below.size, by rw [hT]; exact bn⟩ (hI.old hb0) hM ((KeepsOthers.alloc W _).from _) (KpS.below hb0 ?_)
        intro z hz
        rcases hz with hz | rfl
        · exact (hI.seats.lt hz).2
        · have := hI.big; have := bX.lt; omega
      case body =>
        rintro l pre y T W ⟨hTw, hbT⟩ hT ⟨hy, hi⟩
        obtain ⟨hP, hR, hN, hL, hS9, hbw, hbig⟩ := hT
        have hlt5 : S < W.heap.size := hP.lt
        have hltN : N < W.heap.size := hN.lt
        have hltL : L < W.heap.size := hL.lt
        have hltT : T < W.heap.size := hbT.lt
        have c1 : W.cell? ⟨S, 0, none⟩ = some (.pointer (some ⟨r.s, 0, none⟩)) := hP.rule 0
        have cw := who_in W w.heap.size r hS9 hy
        unfold tokVal tokCells at cw
        gi_wp2_with (refine ⟨trivial, ?_⟩; gi_at_call 5; refine (callsIn_wide.2 cw).mono ?_)
        rintro e W7 ⟨rfl, hb7⟩
        clear c1 cw
        have hz7 := hb7.size
        replace hP := hP.old hb7
        replace hN := hN.old hb7
        replace hL := hL.old hb7
        replace hbT := hbT.old hb7
        have d1 : W7.cell? ⟨S, 0, none⟩ = some (.pointer (some ⟨r.s, 0, none⟩)) := hP.rule 0
        have d2 : W7.cell? ⟨T, 0, none⟩ = some (.string y.2.name) := hbT.rule 0
        have d3 : W7.cell? ⟨T, 1, none⟩ = some (.int .i8 y.2.role) := hbT.rule 1
        have d4 : W7.cell? ⟨T, 2, none⟩ = some (.int .i64 y.2.til) := hbT.rule 2
        have d5 : W7.cell? ⟨L, 0, none⟩ = some (.int .i64 (lastV r pre.length)) := hL.rule 0
        have d6 : W7.cell? ⟨N, 0, none⟩ = some (.int .i64 (pre.length : Int)) := hN.rule 0
        have z1 : S < W7.heap.size := by omega
        have z2 : T < W7.heap.size := by omega
        have z3 : L < W7.heap.size := by omega
        have z4 : N < W7.heap.size := by omega
        have hb8 : Below W7.heap.size W7 (W7.alloc (.cells #[.string y.2.name, .int .i8 y.2.role, .int .i64 y.2.til] 24)) := (Below.refl _ _).alloc (Nat.le_refl _) _
        have ch := where_in _ w.heap.size r ((hS9.old hb7).old hb8) hy y.2.name y.2.role rfl rfl
        gi_wp2_with (refine ⟨trivial, ?_⟩; gi_at_call 6; refine (callsIn_wide.2 ch).mono ?_)
        rintro e W8 ⟨rfl, rfl⟩
        clear ch
        have hneq : ∀ W : World, (binOp .neq 24 (.agg #[.string y.2.name, .int .i8 y.2.role, .int .i64 y.2.til]) (.agg #[.string y.2.name, .int .i8 y.2.role, .int .i64 y.2.til])).run Try.prog W = .ok (.bool false) W := fun W => neq_tok y.2 W
        have hpl : pre.length < (sortS r.l).length := (List.getElem?_eq_some_iff.1 hi).1
        have hp16 : pre.length < r.l.length := by rw [sortS_len] at hpl; exact hpl
        have hgt : decide (y.1 ≤ lastV r pre.length) = false := by
          have h5 := (hs.ok y hy).lo
          have : lastV r pre.length < y.1 := by
            unfold lastV
            by_cases h0 : pre.length = 0
            · rw [if_pos h0]; omega
            · rw [if_neg h0]
              have h6 := List.pairwise_iff_getElem.1 (sortS_lt hs.conns) (pre.length - 1) pre.length (by omega) hpl (by omega)
              have h7 : (sortS r.l)[pre.length] = y.1 := (List.getElem?_eq_some_iff.1 hi).2
              rw [List.getElem?_eq_getElem (show pre.length - 1 < (sortS r.l).length by omega), Option.getD_some]
              omega
          simp; omega
        have hlast : lastV r (pre.length + 1) = y.1 := by
          unfold lastV
          rw [if_neg (by omega), Nat.add_sub_cancel, hi]; rfl
        have HLAST := Lib.hid hlast
        have d7 : W7.frozen? ⟨L, 0, none⟩ = false := hL.free 0
        have d8 : W7.frozen? ⟨N, 0, none⟩ = false := hN.free 0
        clear hlast hpl
        generalize hpk : pre.length = pk at *
        have HPK := Lib.hid hpk
        clear hpk
        gi_wp2
        have hbx : X < W.heap.size := by have := bX.lt; omega
        have hk7 : KeepsFrom W6.heap.size W W7 := ⟨hb7.size, fun q o _ hq _ => (hb7.block q (Array.getElem?_eq_some_iff.1 hq).1).trans hq⟩
        have hS7 : ∀ z, (sfoot r z ∨ z = X) → z < W.heap.size ∧ z ≠ L ∧ z ≠ N := fun z hz => by
          rcases hz with hz | rfl
          · refine ⟨(hS9.lt hz).2, ?_, ?_⟩
            · rcases hz with rfl | rfl | rfl
              · exact hs.blk.ne bL (by decide)
              · exact (bL.ne_gmap hs.ma).symm
              · exact (bL.ne_gmap hs.mb).symm
            · rcases hz with rfl | rfl | rfl
              · exact hs.blk.ne bN (by decide)
              · exact (bN.ne_gmap hs.ma).symm
              · exact (bN.ne_gmap hs.mb).symm
          · exact ⟨hbx, hXN.2.1, hXN.1⟩
        have e2 : ((pk : Int) + 1) = ((pk + 1 : Nat) : Int) := by omega
        rw [e2]
        have hb9 : ∀ V : World, Below V.heap.size V (V.alloc (.cells #[.string y.2.name, .int .i8 y.2.role, .int .i64 y.2.til] 24)) := fun V => (Below.refl _ _).alloc (Nat.le_refl _) _
        have e0 : ∀ q, q ≠ L → q ≠ N → ((W7.setCell ⟨L, 0, none⟩ (.int .i64 y.1)).setCell ⟨N, 0, none⟩ (.int .i64 ((pk + 1 : Nat) : Int))).heap[q]? = W7.heap[q]? := fun q h1 h2 => (heap_setCell_other (W7.setCell ⟨L, 0, none⟩ (.int .i64 y.1)) ⟨N, 0, none⟩ q _ h2).trans (heap_setCell_other W7 ⟨L, 0, none⟩ q _ h1)
        have bL9 : Blk ((W7.setCell ⟨L, 0, none⟩ (.int .i64 y.1)).setCell ⟨N, 0, none⟩ (.int .i64 ((pk + 1 : Nat) : Int))) L #[.int .i64 y.1] 3 := (heap_setCell_other (W7.setCell ⟨L, 0, none⟩ (.int .i64 y.1)) ⟨N, 0, none⟩ L _ (Ne.symm hNL)).trans (hL.set 0 (.int .i64 y.1))
        have bN9 : Blk ((W7.setCell ⟨L, 0, none⟩ (.int .i64 y.1)).setCell ⟨N, 0, none⟩ (.int .i64 ((pk + 1 : Nat) : Int))) N #[.int .i64 ((pk + 1 : Nat) : Int)] 3 :=
          Blk.set (w := W7.setCell ⟨L, 0, none⟩ (.int .i64 y.1)) (cs := #[.int .i64 (pk : Int)]) ((heap_setCell_other W7 ⟨L, 0, none⟩ N _ hNL).trans hN) 0 _
        refine ⟨?_, ?_, ?_⟩
        · exact ((hk7.trans ((KeepsOthers.setCell _ _ _).from _)).trans ((KeepsOthers.setCell _ _ _).from _)).trans ((KeepsOthers.alloc _ _).from _)
        · refine (((KpS.below hb7 fun z hz => (hS7 z hz).1).trans (KpS.setCell W7 ⟨L, 0, none⟩ _ (.inr rfl) fun z hz => (hS7 z hz).2.1)).trans (KpS.setCell _ ⟨N, 0, none⟩ _ (.inl rfl) fun z hz => (hS7 z hz).2.2)).trans (KpS.below (hb9 _) fun z hz => ?_)
          have := (hS7 z hz).1
          simp
          omega
        · dsimp only
          rw [List.length_append, HPK.out]
          refine AgrIn.old ?_ (hb9 _)
          refine ⟨?_, ?_, bN9, ?_, ?_, ?_, ?_⟩
          · exact (e0 S hSN.2 hSN.1).trans hP
          · exact (e0 R hRN.2 hRN.1).trans (hR.old hb7)
          · show Blk _ L #[.int .i64 (lastV r (pk + 1))] _
            rw [HLAST.out]; exact bL9
          · exact (hS9.old hb7).keep fun z hz => e0 z (hS7 z (.inl hz)).2.1 (hS7 z (.inl hz)).2.2
          · exact ((below_step hbw hb7).setCell hLw _).setCell hNw _
          · simp; omega
      case stop =>
        rintro D c pre W hD - hx hK
        exact hx.elim
      case done =>
        rintro D ys W hD hlen hT hdf
        rw [hlen] at hT
        obtain ⟨hP, hR, hN, hL, hS9, hbw, hbig⟩ := hT
        have hln := hS9.len
        have hcn : (r.l.length : Int) ≤ min (max m 0) 16 := by rw [← hmo, ← hm]; exact hS9.cnt
        have cl := len_any W.drew w.heap.size r (hS9.keep fun _ _ => rfl)
        have L1 := fun V (hV : Old W.drew V) => (hN.drew.old hV).rule 0
        have L2 := fun V (hV : Old W.drew V) => (hP.drew.old hV).rule 0
        simp at L1 L2
        have hln2 : r.l.length = r.l.length := rfl
        generalize r.l.length = ln at cl L1 hln hcn
        have g2 : decide ((ln : Int) ≤ 16) = true := by simp; omega
        have g1 : decide ((ln : Int) ≤ max m 0) = true := by simp only [decide_eq_true_eq]; omega
        clear hmo hcn
        go_upto_region 23 with (fail)
        have hdl : D < W.heap.size := (Array.getElem?_eq_some_iff.1 hdf).1
        have hRD : R ≠ D := fun e => by
          have h5 : W.heap[R]? = _ := hR
          rw [e, hdf] at h5
          cases h5
        refine wp_region_treeR true Old Old.refl Old.trans (.step 0 (.step 1 (.step 2 (.step 3 (.step 4 (.step 5 (.step 6 (.step 7 (.step 8 (.step 9 (.step 10 (.step 11 (.step 12 (.step 13 (.step 14 (.step 15 (.step 16 (.step 17 .done)))))))))))))))))) (by kernel_rfl) (by kernel_rfl) (fun c a d v w h => by cases d <;> exact h) ?_
        repeat (first | (refine tree_skip rfl (by rfl) ?_; simp only [Act.put, List.setIfInBounds_toArray, List.set]) | (refine tree_quiet (v := ?_) rfl rfl (by rfl) ?_ ?_; rotate_left; (intro W hW; go_simp); (try with_reducible rfl); simp only [Act.put, List.setIfInBounds_toArray, List.set]))
        refine tree_loud rfl rfl (by rfl) (fun K hK => ?_)
        go_wp2_with fail
        refine cl.mono ?_
        rintro e V ⟨rfl, rfl⟩
        refine hK _ _ (Old.refl _) ?_
        clear hK K
        repeat (first | (refine tree_skip rfl (by rfl) ?_; simp only [Act.put, List.setIfInBounds_toArray, List.set]) | (refine tree_quiet (v := ?_) rfl rfl (by rfl) ?_ ?_; rotate_left; (intro W hW; go_simp); (try with_reducible rfl); simp only [Act.put, List.setIfInBounds_toArray, List.set]))
        refine tree_loud rfl rfl (by rfl) (fun K hK => ?_)
        go_wp2_with fail
        refine (wakes_any _).mono ?_
        rintro e V ⟨rfl, hbv⟩
        refine hK _ _ hbv ?_
        clear hK K L1 L2
        have hR8 : Blk V R #[.bool false] 4 := hR.drew.old hbv
        have hdf8 : V.heap[D]? = some (.deferred (some [])) := (hbv.block D hdl).trans hdf
        have hbw8 : Below w.heap.size w V := below_step hbw.drew hbv
        have c8 := hR8.rule 0
        simp at c8
        have f8 := hR8.free 0
        repeat (first | (refine tree_skip rfl (by rfl) ?_; simp only [Act.put, List.setIfInBounds_toArray, List.set]) | (refine tree_quiet (v := ?_) rfl rfl (by rfl) ?_ ?_; rotate_left; (intro W hW; go_simp); (try with_reducible rfl); simp only [Act.put, List.setIfInBounds_toArray, List.set]))
        refine tree_store rfl rfl (by rfl) (fun K hK => ?_)
        go_wp2_with fail
        refine tree_done ?_
        go_wp2_with fail
        have hdf9 : (V.setCell ⟨R, 0, none⟩ (.bool true)).heap[D]? = some (.deferred (some [])) := (heap_setCell_other V ⟨R, 0, none⟩ D _ (Ne.symm hRD)).trans hdf8
        have hc9 : ((V.setCell ⟨R, 0, none⟩ (.bool true)).putObj D (.deferred none)).cell? ⟨R, 0, none⟩ = some (.bool true) := (World.cell?_of_block (a := ⟨R, 0, none⟩) (World.putObj_heap_other hRD)).trans (World.cell?_setCell_same' V ⟨R, 0, none⟩ _ (by rw [c8]; rfl))
        refine ⟨by simp, .inl ⟨_, _, rfl, run_takeDeferred hdf9, ?_⟩⟩
        refine ⟨.bool true, ?_, rfl, ?_⟩
        · simp [results, Try.f4, go_sem, hc9]
        · exact (hbw8.setCell hRw _).grown (grownBy_putObj' _ D (.deferred none)) (by have := hbw8.size; simpa [World.setCell] using this) (fun k e => by cases e; have := hb.size; omega)
end Go.Proofs.Ytepbeafbfbimlaa

/- Late, where one is logged in whose time is over. -/
import Derived.Test.YtepbeafbfbimlaaSeatEach
import Derived.Test.YtepbeafbfbimlaaKept
import Derived.Test.YtepbeafbfbimlaaRangeA
namespace Go.Proofs.Ytepbeafbfbimlaa
open Go.RowKit Go.Shelf Go.Maps
attribute [local go_sem] Oper.semAt_some
set_option linter.unusedVariables false
set_option linter.unusedSimpArgs false

theorem SeatsAt.from (B : Nat) (r : SeatsR) {C : Nat} {w0 : World} (h0 : SeatsAt w0 B r) (hC : w0.heap.size ≤ C) {W W' : World} {row : Option Nat} (h : SeatsAt W B r) (hg : W.grownBy W' row) (hr : ∀ q, row = some q → C ≤ q ∧ ∃ o : Obj, W.heap[q]? = some o ∧ o.isCells = false) : SeatsAt W' B r :=
  h.keep fun x hx => hg.block x (h.lt hx).2 fun e => by
    have h1 := (hr x e.symm).1
    have h2 := (h0.lt hx).2
    omega
theorem blk_kept {W W' : World} {row : Option Nat} {g : Nat} {cs : Array Value} {t : TypeId} (h : Blk W g cs t) (hg : W.grownBy W' row) (hr : ∀ r, row = some r → ∃ o : Obj, W.heap[r]? = some o ∧ o.isCells = false) : W'.heap[g]? = W.heap[g]? := grownBy_keeps_cells hg hr h rfl
theorem own_kept {W W' : World} {row : Option Nat} {B : Nat} {e : TypeId} {size : Nat} {a : Option Addr} {n c : Nat} {vs : List Value} (h : Own W B e size a n c vs) (hg : W.grownBy W' row) (hr : ∀ r, row = some r → ∃ o : Obj, W.heap[r]? = some o ∧ o.isCells = false) : Own W' B e size a n c vs :=
  h.keepAt fun x hx => by
    obtain ⟨_, _, cur, hb⟩ := h.block_lt hx
    exact blk_kept hb hg hr
theorem Turn.putObj {F : Nat → Prop} {w0 W : World} (h : Turn F w0 W) {l : Nat} (o' : Obj) (hl : w0.heap.size ≤ l) : Turn F w0 (W.putObj l o') := by
  have hg := grownBy_putObj' W l o'
  refine ⟨hg.os.trans h.os, hg.tape.trans h.tape, hg.output.trans h.output, Nat.le_trans h.size hg.size, fun k hk hf => (World.putObj_heap_other (by omega)).trans (h.block k hk hf)⟩
theorem KpS.setCell {S F : Nat → Prop} (X : World) (a : Addr) (v : Value) (hF : F a.block) (hS : ∀ x, S x → x ≠ a.block) : KpS S F X (X.setCell a v) :=
  ⟨by simp, fun x hx => heap_setCell_other X a x v (hS x hx), fun x cs t _ hnF => heap_setCell_other X a x v fun e => hnF (e ▸ hF)⟩
theorem intsT3 : RowType Try.prog 33 3 1 8 := RowType.mk (z := .int .i64 0) Try.underlying33 (by kernel_rfl) rfl (by omega)
/-- append to an own row, within a round. -/
theorem wpListIn_append_round {n l : Nat} {P : Program} {w : World} {ops : Array Oper} {rest : List Oper} {o : Oper} {a : Act} {Q : Exit → Act → World → Prop} (hgd : o.guard = none) (hd : noDefer o = true) (s x : Operand) (t : TypeId)
    (ho : o.op = .call { callee := .builtin .append, args := #[s, x], argTypes := #[t, t] }) {e : TypeId} {size bytes : Nat} (hT : RowType P t e size bytes)
    {B : Nat} {sa : Option Addr} {n' sc : Nat} {xs : List Value} (hs : a.eval s = .slice sa n' sc) (hown : Own w B e size sa n' sc xs)
    {xa : Option Addr} {m xc : Nat} {news : List Value} (hx : a.eval x = .slice xa m xc) (hrow : RowAt w xa news) (hl : news.length = m * size) (h1 : ∀ u ∈ news, u.oneCell' = true)
    (h63 : n' + m ≤ maxLen) (hbytes : (n' + m) * bytes ≤ 140737488355328) (hbase : B ≤ w.heap.size)
    (h : ∀ a' c' w', Own w' B e size a' (n' + m) c' (xs ++ news) → w.grownBy w' (Value.slice sa n' sc).ownBlock → wpListIn (Fence.wide.inRound l) n P ops Q rest (a.put o.dst (.slice a' (n' + m) c')) w') :
    wpListIn (Fence.wide.inRound l) n P ops Q (o :: rest) a w :=
  wpListIn_plain hgd fun K hK' => oper_round hd (wp_append_row s x t ho hT hs hown hx hrow hl h1 h63 hbytes hbase fun a' c' w' e1 e2 => hK' _ _ (h a' c' w' e1 e2))
structure LateIn (w : World) (B : Nat) (r : SeatsR) (now : Int) (x : Seat) (k : Nat) (W : World) : Prop where
  now' : W.cell? ⟨w.heap.size, 0, none⟩ = some (.int .i64 now)
  out : ∃ a c, W.cell? ⟨w.heap.size + 1, 0, none⟩ = some (.slice a k c) ∧ Own W (w.heap.size + 3) 3 1 a k c (List.replicate k (.int .i64 x.1)) ∧ (k = 0 → a = none ∧ c = 0)
  outF : W.frozen? ⟨w.heap.size + 1, 0, none⟩ = false
  seats : SeatsAt W B r
  below : Below w.heap.size w W
  big : w.heap.size + 3 ≤ W.heap.size
theorem LateIn.own (w : World) (B : Nat) (r : SeatsR) (now : Int) (x : Seat) (h0 : SeatsAt w B r) {C : Nat} (hC : w.heap.size ≤ C) {α : Type} (f : α → Nat) : OwnFrom C (fun (s : α) W => LateIn w B r now x (f s) W) :=
  fun s X Y row hs hg hr => by
    have hr' : ∀ r, row = some r → ∃ o : Obj, X.heap[r]? = some o ∧ o.isCells = false := fun r e => (hr r e).2
    obtain ⟨a, c, h1, h2, h3⟩ := hs.out
    exact ⟨cell_kept hs.now' hg hr', ⟨a, c, cell_kept h1 hg hr', own_kept h2 hg hr', h3⟩, (frozen_kept h1 hg hr').trans hs.outF, SeatsAt.from B r h0 hC hs.seats hg hr, hs.below.grown hg (by have := hs.below.size; omega) (fun r e => by have := (hr r e).1; omega), Nat.le_trans hs.big hg.size⟩
theorem LateIn.old {w : World} {B : Nat} {r : SeatsR} {now : Int} {x : Seat} {k : Nat} {W W' : World} (h : LateIn w B r now x k W) (hb : Below W.heap.size W W') : LateIn w B r now x k W' := by
  obtain ⟨a, c, h1, h2, h3⟩ := h.out
  exact ⟨(hb.cell (p := ⟨w.heap.size, 0, none⟩) (World.block_lt_of_cell? _ _ h.now')).trans h.now', ⟨a, c, (hb.cell (p := ⟨w.heap.size + 1, 0, none⟩) (World.block_lt_of_cell? _ _ h1)).trans h1, h2.old hb, h3⟩,
    (World.frozen?_of_block (hb.block _ (World.block_lt_of_cell? _ ⟨w.heap.size + 1, 0, none⟩ h1))).trans h.outF, h.seats.old hb, below_step h.below hb, Nat.le_trans h.big hb.size⟩
set_option maxRecDepth 100000 in
set_option maxHeartbeats 8000000 in
theorem late_one (w : World) (B : Nat) (r : SeatsR) (h : SeatsAt w B r) (hB : B ≤ w.heap.size) (x : Seat) (hl : r.l = [x]) (now : Int) (hlt : x.2.til < now) :
    Calls Try.prog 9 #[.pointer (some ⟨r.s, 0, none⟩), .int .i64 now] w fun e w' => ∃ a c, e = .returned (.slice a 1 c) ∧ Own w' w.heap.size 3 1 a 1 c [.int .i64 x.1] ∧ SStep B w r w' { r with l := [] } := by
  refine (callsIn_wide (n := 3)).1 ?_
  have h1 : 1 ≤ 3 := by omega
  refine callsIn_of_wp_marks Try.func9 rfl trivial ?_ rfl
  simp only [Try.ntmps9, List.size_toArray, List.length_cons, List.length_nil, Nat.reduceAdd, Nat.reduceSub, Array.replicate_succ, Array.replicate_zero, List.push_toArray, List.append_toArray, List.nil_append, List.cons_append]
  gi_wp2_with (refine ⟨trivial, ?_⟩; gi_at_call 14; refine (callsIn_wide.2 (all_any _ _)).mono ?_; rintro e w' ⟨rfl, rfl⟩)
  have b := (((Below.refl _ w).alloc (Nat.le_refl _) (.cells #[.int .i64 now] 2)).alloc (by simp) (.cells #[.slice none 0 0] 33)).alloc (by simp; omega) (.cells #[.pointer (some ⟨r.s, 0, none⟩)] 25)
  refine wpIn_rangeFunc_ownA rfl h1 (gf := 16) (lb := #[.pointer (some ⟨w.heap.size + 1 + 1, 0, none⟩)]) rfl trivial (enters_of Try.func16 (by kernel_rfl) rfl)
    (all1_any 2 (by omega) B r (fun y => y = w.heap.size + 1) (w.heap.size + 1 + 1) _ (h.old b) (by go_simp) (fun y hy => by subst hy; simp)) (fun p X Y row hp _ _ => hp) (fun h h' => h.trans h') (fun W l o o' hlo ho hc _ => KpS.putObj o' ho hc fun y hy => by
      rcases hy with hy | hy
      · have := (h.lt hy).2; simp at hlo; omega
      · simp at hlo; omega) (Below.refl _ _) (fun _ => rfl)
    (fun pre W => LateIn w B r now x pre.length W)
    (fun c pre W => False)
    (LateIn.own w B r now x h (by simp; omega) List.length)
    (fun c s X Y row hs hg hr => hs) ?start
    (fun y a W => ∃ T, a = { tmps := #[.pointer (some ⟨r.s, 0, none⟩), .int .i64 now, undef, .pointer (some ⟨w.heap.size, 0, none⟩), .pointer (some ⟨w.heap.size + 1, 0, none⟩), .int .i64 y.1, .pointer (some ⟨T, 0, none⟩), undef, undef, .pointer (some ⟨r.s, 0, none⟩), .func (.func 16) #[] #[.pointer (some ⟨w.heap.size + 1 + 1, 0, none⟩)], .int .i64 y.1, .agg #[.string y.2.name, .int .i8 y.2.role, .int .i64 y.2.til], undef, undef, undef, undef, undef, undef, undef, undef, undef, undef, undef, undef, undef, undef, undef, undef, undef, undef, undef], defers := [] } ∧ w.heap.size ≤ T ∧ Blk W T (tokCells y.2).toArray 24) (fun p X Y row hp hg hr => by
      obtain ⟨T, e, hT, hb⟩ := hp
      exact ⟨T, e, hT, (blk_kept hb hg fun q e => (hr q e).2).trans hb⟩) ?assign ?body ?done ?stop
  case start =>
    refine ⟨by go_simp, ⟨none, 0, by go_simp, Own.nil _ _ _ _, fun _ => ⟨rfl, rfl⟩⟩, by go_simp, h.old b, b, by simp⟩
  case assign =>
    intro l pre y W K hI hM hK
    unfold encSeat tokVal tokCells
    gi_wp2
    have hb0 : Below W.heap.size W (W.alloc (.cells #[.string y.2.name, .int .i8 y.2.role, .int .i64 y.2.til] 24)) := (Below.refl _ _).alloc (Nat.le_refl _) _
    refine hK _ _ ⟨W.heap.size, ?_, hI.below.size, Blk.new W (tokCells y.2).toArray _⟩ (hI.old hb0) hM ((KeepsOthers.alloc W _).from _) (KpS.below hb0 ?_)
    · rfl
    · intro z hz
      rcases hz with hz | rfl
      · exact (hI.seats.lt hz).2
      · have := hI.big; omega
  case body =>
    rintro l pre y a1 W ⟨T, rfl, hTw, hbT⟩ hT ⟨hy, hi⟩
    rw [hl] at hy
    obtain rfl := List.mem_singleton.1 hy
    obtain ⟨t1, ⟨a, c, t2, t3, t4⟩, tF, ts, tb, tz⟩ := hT
    have hp0 : pre.length = 0 := by
      have h5 := (List.getElem?_eq_some_iff.1 hi).1
      rw [sortS_len, hl] at h5
      simp at h5
      rw [h5]; rfl
    obtain ⟨rfl, rfl⟩ := t4 hp0
    have hpe : pre = [] := List.eq_nil_of_length_eq_zero hp0
    subst hpe
    have cT := hbT.rule
    unfold tokCells at cT
    have hA := (Own.nil W W.heap.size 3 1).alloc (.cells #[.int .i64 y.1] 3)
    have hl1 : w.heap.size + 1 < W.heap.size := by omega
    gi_wp2_with (refine wpListIn_append_round rfl rfl _ _ 33 rfl intsT3 rfl hA rfl (RowAt.new' _ _ _ _ (by rfl)) (by rfl) (by exact all_one _ rfl) (by unfold maxLen; omega) (by omega) (by simp) ?_)
    intro a6 c6 W6 hown6 hg6
    have hal : Below W.heap.size W (W.alloc (.cells #[.int .i64 y.1] 3)) := (Below.refl _ _).alloc (Nat.le_refl _) _
    have hb6 : Below W.heap.size W W6 := hal.trans ⟨hg6.os, hg6.tape, hg6.output, hg6.size, fun k hk => hg6.block k (by simp; omega) (by simp [Value.ownBlock])⟩
    have t5 : W6.cell? ⟨w.heap.size + 1, 0, none⟩ = some (.slice none 0 0) := (hb6.cell (p := ⟨w.heap.size + 1, 0, none⟩) hl1).trans t2
    have t6 : W6.frozen? ⟨w.heap.size + 1, 0, none⟩ = false := (World.frozen?_of_block (hb6.block (w.heap.size + 1) hl1)).trans tF
    have hk6 : KeepsFrom (w.heap.size + 1 + 1 + 1) W W6 := ((KeepsOthers.alloc W _).from _).trans (KeepsFrom.of_grownBy hg6 (by simp [Value.ownBlock]))
    clear t2 hA
    gi_wp2
    refine ⟨by simpa using hk6.trans ((KeepsOthers.setCell W6 ⟨w.heap.size + 1, 0, none⟩ (.slice a6 1 c6)).from _), ?_, ?_⟩
    · refine (KpS.below hb6 fun z hz => ?_).trans (KpS.setCell W6 ⟨w.heap.size + 1, 0, none⟩ (.slice a6 1 c6) rfl fun z hz => ?_)
      · rcases hz with hz | rfl
        · exact (ts.lt hz).2
        · omega
      · show z ≠ w.heap.size + 1
        rcases hz with hz | rfl
        · have := (h.lt hz).2; omega
        · omega
    · have e0 : ∀ b, b ≠ w.heap.size + 1 → (W6.setCell ⟨w.heap.size + 1, 0, none⟩ (.slice a6 1 c6)).heap[b]? = W6.heap[b]? := fun b hb => heap_setCell_other W6 ⟨w.heap.size + 1, 0, none⟩ b _ hb
      refine ⟨?_, ⟨a6, c6, World.cell?_setCell_same' W6 ⟨w.heap.size + 1, 0, none⟩ _ (by rw [t5]; rfl), (hown6.setCell_lt ⟨w.heap.size + 1, 0, none⟩ _ hl1).lower tz, fun h0 => by simp at h0⟩, by simpa using t6, ?_, ?_, ?_⟩
      · exact (World.cell?_of_block (a := ⟨w.heap.size, 0, none⟩) (e0 w.heap.size (by omega))).trans ((hb6.cell (p := ⟨w.heap.size, 0, none⟩) (show w.heap.size < W.heap.size by omega)).trans t1)
      · exact (ts.old hb6).keep fun z hz => e0 z (by have := (h.lt hz).2; omega)
      · exact (below_step tb hb6).setCell (by simp) _
      · have := hb6.size; simp; omega
  case done =>
    rintro D ys W hD hlen hT hdf
    have hk1 : ys.length = 1 := by rw [hlen, hl]; rfl
    rw [hk1] at hT
    obtain ⟨t1, ⟨a, c, t2, t3, t4⟩, tF, ts, tb, tz⟩ := hT
    clear t4 hlen hk1
    have hD1 : w.heap.size + 1 + 1 + 1 ≤ D := by simpa using hD
    have hDl : D < W.heap.size := (Array.getElem?_eq_some_iff.1 hdf).1
    gi_wp2
    gi_loopw [23] (fun p wr => ∃ (k : Nat) (r' : SeatsR), k ≤ 1 ∧ p = .int .i64 k ∧ SStep B W r wr r' ∧ r'.l = (if k = 0 then [x] else [])) (fun p _ => 1 - (intOf p).toNat)
    case atStart => exact ⟨0, r, by omega, rfl, SStep.quiet ts (Below.refl _ _), by rw [hl]; rfl⟩
    case round =>
      obtain ⟨k, r', hk, rfl, hs, hrl⟩ := hrel
      have hma : r.ma < w.heap.size := h.ma.lt
      have hmb : r.mb < w.heap.size := h.mb.lt
      have hkp : ∀ b, w.heap.size ≤ b → b < W.heap.size → wr.heap[b]? = W.heap[b]? := fun b h1 h2 => hs.turn.block b h2 (by rintro (e | e) <;> omega)
      have t3' : Own wr (w.heap.size + 3) 3 1 a 1 c [.int .i64 x.1] := t3.keepAt fun z hz => hkp _ (by have := (t3.block_lt hz).1; omega) (t3.block_lt hz).2.1
      have hz := hs.turn.size
      by_cases hk0 : k = 0
      · subst hk0
        rw [if_pos rfl] at hrl
        have hxr : x ∈ r'.l := by rw [hrl]; simp
        have cl := logout_in wr B r' hs.at' hxr
        rw [hs.same.1] at cl
        obtain ⟨rb, ro, e2, hcell⟩ := t3'.row 0 (by simp)
        simp only [List.getElem_cons_zero, Nat.add_zero] at hcell
        subst e2
        gi_wp2_with (refine ⟨trivial, ?_⟩; gi_at_call 8; refine (callsIn_wide.2 cl).mono ?_; rintro e w1 ⟨rfl, hs1⟩)
        go_roundw
        case rel => exact ⟨1, _, Nat.le_refl _, by go_num, hs.trans hs1, by dsimp only; rw [hrl]; simp [without]⟩
        case measure => simp [intOf]
      · obtain rfl : k = 1 := by omega
        rw [if_neg (by omega)] at hrl
        have t2' : wr.cell? ⟨w.heap.size + 1, 0, none⟩ = some (.slice a 1 c) := (World.cell?_of_block (a := ⟨w.heap.size + 1, 0, none⟩) (hkp (w.heap.size + 1) (by omega) (by omega))).trans t2
        have tF' : wr.frozen? ⟨w.heap.size + 1, 0, none⟩ = false := (World.frozen?_of_block (hkp (w.heap.size + 1) (by omega) (by omega))).trans tF
        have hdf' : wr.heap[D]? = some (.deferred (some [])) := (hkp D (by omega) hDl).trans hdf
        gi_wp2
        have hdf2 : (wr.setCell ⟨w.heap.size + 1, 0, none⟩ (.slice a 1 c)).heap[D]? = some (.deferred (some [])) := (heap_setCell_other wr ⟨w.heap.size + 1, 0, none⟩ D _ (by show D ≠ w.heap.size + 1; omega)).trans hdf'
        have hc9 : ((wr.setCell ⟨w.heap.size + 1, 0, none⟩ (.slice a 1 c)).putObj D (.deferred none)).cell? ⟨w.heap.size + 1, 0, none⟩ = some (.slice a 1 c) := (World.cell?_of_block (a := ⟨w.heap.size + 1, 0, none⟩) (World.putObj_heap_other (by show w.heap.size + 1 ≠ D; omega))).trans (World.cell?_setCell_same' wr ⟨w.heap.size + 1, 0, none⟩ _ (by rw [t2']; rfl))
        have own9 : Own ((wr.setCell ⟨w.heap.size + 1, 0, none⟩ (.slice a 1 c)).putObj D (.deferred none)) w.heap.size 3 1 a 1 c [.int .i64 x.1] := by
          have h9 := t3'.setCell_lt ⟨w.heap.size + 1, 0, none⟩ (.slice a 1 c) (by show w.heap.size + 1 < w.heap.size + 3; omega)
          exact (h9.keepAt fun z hz => World.putObj_heap_other fun e => by
            obtain ⟨_, _, cur, hb⟩ := h9.block_lt hz
            have hb' : (wr.setCell ⟨w.heap.size + 1, 0, none⟩ (.slice a 1 c)).heap[z.block]? = _ := hb
            rw [e, hdf2] at hb'
            cases hb').lower (by omega)
        have st9 : SStep B w r ((wr.setCell ⟨w.heap.size + 1, 0, none⟩ (.slice a 1 c)).putObj D (.deferred none)) { r with l := [] } := by
          have er : r' = { r with l := [] } := by
            obtain ⟨e1, e2, e3, e4⟩ := hs.same
            cases r'
            simp only at e1 e2 e3 e4 hrl
            subst e1 e2 e3 e4 hrl
            rfl
          rw [← er]
          refine ⟨hs.at'.keep fun z hz => ?_, Turn.putObj (Turn.setCell ((Turn.of_below (F := fun y => y = r.ma ∨ y = r.mb) tb).trans hs.turn fun _ h => .inl h) (x := ⟨w.heap.size + 1, 0, none⟩) (.inr (by show w.heap.size ≤ w.heap.size + 1; omega)) _) _ (by omega), hs.same⟩
          have hz0 : z < w.heap.size := by
            refine (h.lt (x := z) ?_).2
            rcases hz with hz | hz | hz
            · exact .inl (hz.trans hs.same.1)
            · exact .inr (.inl (hz.trans hs.same.2.1))
            · exact .inr (.inr (hz.trans hs.same.2.2.1))
          exact (World.putObj_heap_other (by omega)).trans (heap_setCell_other wr ⟨w.heap.size + 1, 0, none⟩ z _ (by show z ≠ w.heap.size + 1; omega))
        refine ⟨by simp, .inl ⟨_, _, rfl, run_takeDeferred hdf2, ?_⟩⟩
        refine ⟨.slice a 1 c, ?_, a, c, rfl, own9, st9⟩
        simp [results, Try.f9, go_sem, hc9]
  case stop =>
    rintro D c pre W hD - hx hK
    exact hx.elim
end Go.Proofs.Ytepbeafbfbimlaa

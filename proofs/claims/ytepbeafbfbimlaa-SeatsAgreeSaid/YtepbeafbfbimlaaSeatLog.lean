/- The walks through package seats: Logout, Login. -/
import Derived.Test.YtepbeafbfbimlaaSeat
import Derived.Test.YtepbeafbfbimlaaMapEntry
namespace Go.Proofs.Ytepbeafbfbimlaa
open Go.RowKit Go.Maps
set_option linter.unusedVariables false
set_option linter.unusedSimpArgs false

theorem nodup_inj {α β : Type} {f : α → β} : ∀ {l : List α}, (l.map f).Nodup → ∀ {a b : α}, a ∈ l → b ∈ l → f a = f b → a = b
  | [], _, _, _, h, _, _ => by cases h
  | x :: l, hn, a, b, ha, hb, e => by
    rw [List.map_cons, List.nodup_cons] at hn
    rcases List.mem_cons.1 ha with rfl | ha' <;> rcases List.mem_cons.1 hb with rfl | hb'
    · rfl
    · exact absurd (List.mem_map.2 ⟨b, hb', e.symm⟩) hn.1
    · exact absurd (List.mem_map.2 ⟨a, ha', e⟩) hn.1
    · exact nodup_inj hn.2 ha' hb' e
theorem sameKey_dec {a b : Lit} {p : Prop} [Decidable p] (ha : WideAt.IsKeyLit a) (h : a = b ↔ ¬ p) : (!a.sameKey b) = decide p := by
  by_cases hp : p
  · have : a.sameKey b = false := by
      rw [Bool.eq_false_iff]
      intro e
      exact h.1 ((sameKey_iff ha).1 e) hp
    simp [this, hp]
  · have := (sameKey_iff ha).2 (h.2 hp)
    simp [this, hp]
def without (l : List Seat) (n : Int) : List Seat := l.filter fun y => decide (y.1 ≠ n)
section
variable {w w' : World} {B : Nat} {r r' : SeatsR}
theorem withoutA (l : List Seat) (n : Int) : ((l.map entA).filter fun x => !keyIs (keyC n) x) = (without l n).map entA := by
  unfold without
  rw [List.filter_map]
  congr 1
  refine List.filter_congr fun y _ => ?_
  show (!(keyC y.1).sameKey (keyC n)) = _
  exact sameKey_dec (by simp [keyC, WideAt.IsKeyLit]) (by simp [keyC])
theorem withoutB (h : SeatsAt w B r) {x : Seat} (hx : x ∈ r.l) : ((r.l.map entB).filter fun y => !keyIs (keyP x.2) y) = (without r.l x.1).map entB := by
  unfold without
  rw [List.filter_map]
  congr 1
  refine List.filter_congr fun y hy => ?_
  show (!(keyP y.2).sameKey (keyP x.2)) = _
  have hnd := h.mb.nd
  rw [List.map_map] at hnd
  have e : keyP y.2 = keyP x.2 ↔ y.1 = x.1 := by
    constructor
    · intro e
      rw [nodup_inj (f := Prod.fst ∘ entB) hnd hy hx e]
    · intro e
      rw [nodup_inj h.conns hy hx e]
  exact sameKey_dec (by simp [keyP, WideAt.IsKeyLit]) (by rw [e]; simp)
theorem GMap.obj {P : Program} {k : TypeId} {R : Value → Option (DU × List MemPlace)} {M : Nat} {l : List (Lit × DU)} (h : GMap w P k R M l) : ∃ es clock, w.heap[M]? = some (.map es clock) := by
  obtain ⟨D, ⟨es, clock, hb, _⟩, _⟩ := h.ex
  exact ⟨es, clock, hb⟩
theorem Blk.ne_gmap {g : Nat} {cs : Array Value} {ty : TypeId} (hb : Blk w g cs ty) {P : Program} {k : TypeId} {R : Value → Option (DU × List MemPlace)} {M : Nat} {l : List (Lit × DU)} (h : GMap w P k R M l) : g ≠ M := fun e => by
  obtain ⟨es, clock, hm⟩ := h.obj
  have h1 : w.heap[g]? = _ := hb
  rw [e, hm] at h1
  cases h1
theorem SeatsAt.ne (h : SeatsAt w B r) : r.s ≠ r.ma ∧ r.s ≠ r.mb := ⟨h.blk.ne_gmap h.ma, h.blk.ne_gmap h.mb⟩
/-- What a call on seats leaves. -/
structure SStep (B : Nat) (w : World) (r : SeatsR) (w' : World) (r' : SeatsR) : Prop where
  at' : SeatsAt w' B r'
  turn : Turn (fun x => x = r.ma ∨ x = r.mb) w w'
  same : r'.s = r.s ∧ r'.ma = r.ma ∧ r'.mb = r.mb ∧ r'.most = r.most
theorem SStep.quiet (h : SeatsAt w B r) (hb : Below w.heap.size w w') : SStep B w r w' r := ⟨h.old hb, Turn.of_below hb, rfl, rfl, rfl, rfl⟩
theorem SStep.pre {w0 : World} (hb : Below w0.heap.size w0 w) (h0 : SeatsAt w0 B r) (h : SStep B w r w' r') : SStep B w0 r w' r' :=
  ⟨h.at', (Turn.of_below (F := fun x => x = r.ma ∨ x = r.mb) hb).trans h.turn fun _ hx => .inl hx, h.same⟩
theorem SStep.trans {w'' : World} {r'' : SeatsR} (h : SStep B w r w' r') (h' : SStep B w' r' w'' r'') : SStep B w r w'' r'' :=
  ⟨h'.at', h.turn.trans h'.turn fun x hx => .inl (by rw [← h.same.2.1, ← h.same.2.2.1]; exact hx), h'.same.1.trans h.same.1, h'.same.2.1.trans h.same.2.1, h'.same.2.2.1.trans h.same.2.2.1, h'.same.2.2.2.trans h.same.2.2.2⟩
theorem SStep.below (h : SStep B w r w' r') (h0 : SeatsAt w B r) (hB : B ≤ w.heap.size) : Below B w w' := h.turn.below (fun x hx => by rcases hx with rfl | rfl; exact h0.ge.2.1; exact h0.ge.2.2.1) hB
theorem Turn.mapTurned {F : Nat → Prop} {M : Nat} (h : w.mapTurned w' M) (hF : F M) : Turn F w w' := Turn.of_grown h.grown (fun k e => by cases e; exact hF)
end
theorem Turn.off {F : Nat → Prop} {a b : World} (h : Turn F a.drew b) : Turn F a b := ⟨h.os, h.tape, h.output, h.size, h.block⟩
theorem But.turned {w w' : World} {b : Nat} (h : w.mapTurned w' b) : But b w w' := ⟨h.grown.size, fun x hx hne => h.grown.block x hx (by simpa using hne)⟩
set_option maxHeartbeats 2000000 in
theorem logout_in (w : World) (B : Nat) (r : SeatsR) (h : SeatsAt w B r) {x : Seat} (hx : x ∈ r.l) :
    Calls Try.prog 8 #[.pointer (some ⟨r.s, 0, none⟩), .int .i64 x.1] w fun e w' => e = .returned (.int .i64 0) ∧ SStep B w r w' { r with l := without r.l x.1 } := by
  have cw := who_in w B r h hx
  rw [show tokVal x.2 = .agg (tokCells x.2).toArray from rfl] at cw
  have hxw : (Lit.int .i64 x.1).wf = true := conn_wf (by have := (h.ok x hx).lo; omega) (by have := (h.ok x hx).hi; omega)
  go_enter Try.func8, Try.ntmps8
  go_wp2_with fail
  refine cw.mono ?_
  clear cw
  rintro e W1 ⟨rfl, hb1⟩
  go_upto_region 2 with (refine wpList_store_blk rfl 24 tokT (.tmp 5) _ rfl rfl rfl (Blk.new _ _ _) rfl rfl (by rfl) ?_)
  obtain ⟨U, hU⟩ : ∃ x, x = W1.heap.size := ⟨_, rfl⟩
  rw [← hU]
  refine wp_forget (fun W => Blk W U (tokCells x.2).toArray 24 ∧ Below W1.heap.size W1 W) ⟨by rw [hU]; exact (Blk.new _ _ _).setRow _, by rw [hU]; exact below_setRow ((Below.refl _ _).alloc (Nat.le_refl _) _) (Nat.le_refl _) _⟩ ?_
  rintro W2 ⟨bu, hb2⟩
  have hbw := below_step hb1 hb2
  have h2 := h.old hbw
  have hUw : w.heap.size ≤ U := by have := hb1.size; omega
  clear hU hb1 hb2
  have hs := h2.blk.rule
  unfold seatCells at hs
  obtain ⟨W3, hrun, hm3, ht3⟩ := h2.ma.del keyI Try.underlying48 (keyOf_conn hxw) 0
  go_wp2_with fail
  have n1 := h2.ne
  have n2 := h2.ge.2.2.2
  have hUa : U ≠ r.ma := by have := h.ma.lt; omega
  have hUb : U ≠ r.mb := by have := h.mb.lt; omega
  have hbu3 : Blk W3 U (tokCells x.2).toArray 24 := (ht3.grown.block U bu.lt (by simpa using hUa)).trans bu
  have hbs3 : Blk W3 r.s (seatCells r) 51 := (ht3.grown.block r.s h2.blk.lt (by simpa using n1.1)).trans h2.blk
  have hm3b := h2.mb.keep (w' := W3) (ht3.grown.block r.mb h2.mb.lt (by simpa using Ne.symm n2))
  have hxt := (h.ok x hx).tok
  obtain ⟨W4, hrun4, hm4, ht4⟩ := (hm3b.keep (w' := W3.drew) rfl).del keyPn Try.underlying49 (keyOf_per hxt.name hxt.role) 0
  unfold perVal at hrun4
  have L1 := fun W (hW : But r.mb W3.drew W) => (hbs3.drew.but hW n1.2).rule
  have L2 := fun W (hW : But r.mb W3.drew W) => (hbu3.drew.but hW hUb).rule
  unfold seatCells at L1
  unfold tokCells at L2
  clear hrun hs
  refine wp_region_treeB r.mb (.step 0 (.step 1 (.step 2 (.step 3 (.step 4 (.step 5 (.step 6 (.step 7 (.step 8 (.step 9 .done)))))))))) (by kernel_rfl) (by kernel_rfl) (fun c a d v w h => by cases d <;> exact h) ?_
  repeat (first | (refine tree_skip rfl (by rfl) ?_; simp only [Act.put, List.setIfInBounds_toArray, List.set]) | (refine tree_quiet (v := ?_) rfl rfl (by rfl) ?_ ?_; rotate_left; (intro W hW; go_simp); (try with_reducible rfl); simp only [Act.put, List.setIfInBounds_toArray, List.set]))
  refine tree_loud rfl rfl (by rfl) (fun K hK => ?_)
  go_wp2_with fail
  refine hK _ _ (But.turned ht4) ?_
  clear hK K L1 L2
  refine tree_done ?_
  go_wp2_with fail
  go_ret
  rw [withoutA] at hm3
  rw [withoutB h2 hx] at hm4
  have t4 : Turn (fun y => y = r.ma ∨ y = r.mb) W2 W4 := (Turn.mapTurned ht3 (.inl rfl)).trans (Turn.off (Turn.mapTurned (F := fun y => y = r.ma ∨ y = r.mb) ht4 (.inr rfl))) fun _ h => .inl h
  refine ⟨rfl, SStep.pre hbw h ⟨⟨h2.ge, ?_, ?_, hm4, fun y hy => h2.ok y (List.mem_filter.1 hy).1, ?_, h2.most⟩, t4, rfl, rfl, rfl, rfl⟩⟩
  · exact (ht4.grown.block r.s hbs3.lt (by simpa using n1.2)).trans hbs3
  · exact hm3.keep (ht4.grown.block r.ma hm3.lt (by simpa using n2))
  · have h5 : (without r.l x.1).length ≤ r.l.length := List.length_filter_le _ _
    have := h2.cnt
    dsimp only
    omega
theorem logout_no (w : World) (B : Nat) (r : SeatsR) (h : SeatsAt w B r) {n : Int} (hw : (Lit.int .i64 n).wf = true) (hn : ∀ x ∈ r.l, x.1 ≠ n) :
    Calls Try.prog 8 #[.pointer (some ⟨r.s, 0, none⟩), .int .i64 n] w fun e w' => e = .returned (.int .i64 4) ∧ Below w.heap.size w w' := by
  have cw := who_no w B r h hw hn
  rw [show tokVal tok0 = .agg (tokCells tok0).toArray from rfl] at cw
  go_enter Try.func8, Try.ntmps8
  go_wp2_with fail
  refine cw.mono ?_
  clear cw
  rintro e W1 ⟨rfl, hb1⟩
  go_upto_region 2 with (refine wpList_store_blk rfl 24 tokT (.tmp 5) _ rfl rfl rfl (Blk.new _ _ _) rfl rfl (by rfl) ?_)
  refine wp_forget (fun W => Below W1.heap.size W1 W) (below_setRow ((Below.refl _ _).alloc (Nat.le_refl _) _) (Nat.le_refl _) _) ?_
  rintro W2 hb2
  have hbw := below_step hb1 hb2
  go_wp2_with fail
  go_ret
  exact ⟨rfl, hbw⟩
theorem toList_data (s : ByteArray) : s.toList = s.data.toList := by
  obtain ⟨⟨l⟩⟩ := s
  exact strOf_toList l
def badArg (n : Int) (t : TokL) : Prop := n < 0 ∨ 16 ≤ n ∨ t.name.size = 0 ∨ 40 < t.name.size ∨ t.role < 0 ∨ 2 < t.role
instance (n : Int) (t : TokL) : Decidable (badArg n t) := by unfold badArg; infer_instance
def hereS (l : List Seat) (n : Int) : Bool := l.any fun x => decide (x.1 = n)
def thereS (l : List Seat) (t : TokL) : Bool := l.any fun x => decide (x.2.name = t.name ∧ x.2.role = t.role)
def whereN (l : List Seat) (t : TokL) : Int := match l.find? (fun x => decide (x.2.name = t.name ∧ x.2.role = t.role)) with
  | some x => x.1
  | none => 0
def loginP (most : Int) (l : List Seat) (n : Int) (t : TokL) (now : Int) : List Seat × Int :=
  if badArg n t then (l, 2) else if t.til < now then (l, 91) else if hereS l n = true ∨ thereS l t = true then (l, 101) else if most ≤ (l.length : Int) then (l, 100) else (l ++ [(n, t)], 0)
section
variable {w : World} {B : Nat} {r : SeatsR}
theorem SeatsAt.lookA (h : SeatsAt w B r) {n : Int} (hw : (Lit.int .i64 n).wf = true) : ∃ t, (Instr.lookup 48 (.map (some r.ma)) (.int .i64 n) true).run Try.prog w = .ok (.tuple #[tokVal t, .bool (hereS r.l n)]) w := by
  by_cases hx : ∃ x ∈ r.l, x.1 = n
  · obtain ⟨x, hx, rfl⟩ := hx
    exact ⟨x.2, by rw [show hereS r.l x.1 = true from List.any_eq_true.2 ⟨x, hx, by simp⟩]; exact h.look hx true⟩
  · exact ⟨tok0, by
      rw [show hereS r.l n = false from by
        rw [Bool.eq_false_iff]
        intro e
        obtain ⟨x, h1, h2⟩ := List.any_eq_true.1 e
        exact hx ⟨x, h1, by simpa using h2⟩]
      exact h.look_no hw fun x h1 h2 => hx ⟨x, h1, h2⟩⟩
theorem SeatsAt.lookB (h : SeatsAt w B r) {t : TokL} (ht : TokOk t) : (Instr.lookup 49 (.map (some r.mb)) (perVal t) true).run Try.prog w = .ok (.tuple #[.int .i64 (whereN r.l t), .bool (thereS r.l t)]) w := by
  cases hf : r.l.find? (fun x => decide (x.2.name = t.name ∧ x.2.role = t.role)) with
  | some x =>
    have hx := List.mem_of_find?_eq_some hf
    have hp : x.2.name = t.name ∧ x.2.role = t.role := by simpa using List.find?_some hf
    rw [show thereS r.l t = true from List.any_eq_true.2 ⟨x, hx, by simp [hp]⟩, show whereN r.l t = x.1 by unfold whereN; rw [hf]]
    exact h.lookP hx hp.1.symm hp.2.symm
  | none =>
    rw [List.find?_eq_none] at hf
    rw [show thereS r.l t = false from by
      rw [Bool.eq_false_iff]
      intro e
      obtain ⟨x, h1, h2⟩ := List.any_eq_true.1 e
      exact hf x h1 h2, show whereN r.l t = 0 by unfold whereN; rw [List.find?_eq_none.2 hf]]
    exact h.lookP_no ht.name ht.role fun x h1 h2 => hf x h1 (by simpa using h2)
end
set_option maxHeartbeats 4000000 in
theorem login_any (w : World) (B : Nat) (r : SeatsR) (h : SeatsAt w B r) (hB : B ≤ w.heap.size) (n : Int) (t : TokL) (now : Int) (hn : (Lit.int .i64 n).wf = true) (ht : TokOk t) :
    Calls Try.prog 7 #[.pointer (some ⟨r.s, 0, none⟩), .int .i64 n, tokVal t, .int .i64 now] w fun e w' => e = .returned (.int .i64 (loginP r.most r.l n t now).2) ∧ SStep B w r w' { r with l := (loginP r.most r.l n t now).1 } := by
  rw [show tokVal t = .agg (tokCells t).toArray from rfl]
  go_enter Try.func7, Try.ntmps7
  go_upto_region 1 with (fail)
  obtain ⟨T, hT⟩ : ∃ x, x = w.heap.size := ⟨_, rfl⟩
  rw [← hT]
  refine wp_forget (fun W => Blk W T (tokCells t).toArray 24 ∧ Below w.heap.size w W) ⟨by rw [hT]; exact Blk.new _ _ _, by (try unfold Kept); repeat (first | assumption | exact Below.refl _ _ | exact below_undrew (Below.refl _ _) | exact Below.mono (by assumption) (by first | (simp; done) | (simp; omega) | omega) | refine below_setRow ?_ (by first | (simp; done) | (simp; omega) | omega) _ | refine Below.setCell ?_ (by first | (simp; done) | (simp; omega) | omega) _ | refine Below.alloc ?_ (by first | (simp; done) | (simp; omega) | omega) _ | refine below_drewN ?_ _ | refine Below.drew ?_ | refine below_undrew ?_ | refine below_step ?_ (by assumption))⟩ ?_
  rintro W1 ⟨bt, hb1⟩
  have hTw : w.heap.size ≤ T := Nat.le_of_eq hT.symm
  clear hT
  have h1 := h.old hb1
  have hs := h1.blk.rule
  unfold seatCells at hs
  obtain ⟨t1, hla⟩ := h1.lookA hn
  rw [show tokVal t1 = .agg (tokCells t1).toArray from rfl] at hla
  generalize hha : hereS r.l n = here at hla
  go_upto_region 4 with (refine wpList_store_blk rfl 24 tokT (.tmp 9) _ rfl rfl rfl (Blk.new _ _ _) rfl rfl (by rfl) ?_)
  refine wp_forget (fun W => Below W1.heap.size W1 W) (below_setRow ((Below.refl _ _).alloc (Nat.le_refl _) _) (Nat.le_refl _) _) ?_
  rintro W2 hb2
  have hbw2 := below_step hb1 hb2
  replace bt := bt.old hb2
  have h2 := h.old hbw2
  clear hs hla h1 hb1 hb2
  generalize hhb : thereS r.l t = there at *
  have L1 := fun W (hW : Old W2.drew W) => (bt.drew.old hW).rule
  have L2 := fun W (hW : Old W2.drew W) => (h2.blk.drew.old hW).rule
  have L3 := fun W (hW : Old W2.drew W) => (h2.old (w' := W) ⟨hW.os, hW.tape, hW.output, hW.size, hW.block⟩).lookB ht
  unfold tokCells at L1
  unfold seatCells at L2
  unfold perVal at L3
  rw [hhb] at L3
  generalize whereN r.l t = c1 at L3
  refine wp_region_old (0 :: 1 :: 2 :: 3 :: 4 :: 5 :: 6 :: 7 :: 8 :: 9 :: 10 :: 11 :: 12 :: 13 :: 14 :: []) (by kernel_rfl) (by kernel_rfl) (fun c a d v w h => by cases d <;> exact h) ?_
  repeat (first | (refine lex_skip rfl (by rfl) ?_; simp only [Act.put, List.setIfInBounds_toArray, List.set]) | (refine lex_quiet (v := ?_) rfl rfl (by rfl) ?_ ?_; rotate_left; (intro W hW; go_simp); (try with_reducible rfl); simp only [Act.put, List.setIfInBounds_toArray, List.set]))
  refine lex_nil ?_
  clear L1 L2 L3
  go_upto_region 5 with (fail)
  refine wp_forget (fun W => Blk W T (tokCells t).toArray 24 ∧ Below w.heap.size w W) ⟨bt.drew, hbw2.drew⟩ ?_
  clear bt h2 hbw2
  rintro W3 ⟨bt, hbw⟩
  have ct := bt.rule
  unfold tokCells at ct
  have fin : ∀ (W : World) (c : Int), Below w.heap.size w W → loginP r.most r.l n t now = (r.l, c) → (Ending.returned (.int .i64 c) = .returned (.int .i64 (loginP r.most r.l n t now).2)) ∧ SStep B w r W { r with l := (loginP r.most r.l n t now).1 } := fun W c hb hp => by
    rw [hp]; exact ⟨rfl, SStep.quiet h hb⟩
  by_cases q1 : n < 0
  · have d1 : decide (n < 0) = true := by simpa using q1
    go_wp2_with fail
    go_ret
    exact fin _ _ hbw (by unfold loginP; rw [if_pos (.inl q1)])
  by_cases q2 : 16 ≤ n
  · have d1 : decide (n < 0) = false := by simp; omega
    have d2 : decide (16 ≤ n) = true := by simpa using q2
    go_wp2_with fail
    go_ret
    exact fin _ _ hbw (by unfold loginP; rw [if_pos (.inr (.inl q2))])
  have d1 : decide (n < 0) = false := by simp; omega
  have d2 : decide (16 ≤ n) = false := by simp; omega
  have hne : t.name.toList = [] ↔ t.name.size = 0 := by rw [toList_data]; exact ⟨fun e => by have := congrArg List.length e; simpa using this, fun e => by rw [← List.length_eq_zero_iff]; simpa using e⟩
  by_cases q3 : t.name.toList = []
  · have q3' : t.name = ByteArray.empty := bytes_inj (by rw [← toList_data, q3]; rfl)
    have q3e : t.name.toList.isEmpty = true := by rw [q3]; rfl
    go_wp2_with fail
    go_ret
    exact fin _ _ hbw (by unfold loginP; rw [if_pos (.inr (.inr (.inl (hne.1 q3))))])
  have q3' : ¬ t.name = ByteArray.empty := fun e => q3 (by rw [e, toList_data]; rfl)
  have q3e : t.name.toList.isEmpty = false := by simpa using q3
  by_cases q4 : (40 : Int) < (t.name.size : Int)
  · go_wp2_with fail
    go_ret
    exact fin _ _ hbw (by unfold loginP; rw [if_pos (.inr (.inr (.inr (.inl (by omega)))))])
  by_cases q5 : t.role < 0
  · go_wp2_with fail
    go_ret
    exact fin _ _ hbw (by unfold loginP; rw [if_pos (.inr (.inr (.inr (.inr (.inl q5)))))])
  by_cases q6 : 2 < t.role
  · go_wp2_with fail
    go_ret
    exact fin _ _ hbw (by unfold loginP; rw [if_pos (.inr (.inr (.inr (.inr (.inr q6)))))])
  have hgood : ¬ badArg n t := by
    rintro (h | h | h | h | h | h)
    · exact q1 h
    · exact q2 h
    · exact q3 (hne.2 h)
    · omega
    · exact q5 h
    · exact q6 h
  by_cases q7 : t.til < now
  · go_wp2_with fail
    go_ret
    exact fin _ _ hbw (by unfold loginP; rw [if_neg hgood, if_pos q7])
  have hlp : loginP r.most r.l n t now = if here = true ∨ there = true then (r.l, 101) else if r.most ≤ (r.l.length : Int) then (r.l, 100) else (r.l ++ [(n, t)], 0) := by
    unfold loginP; rw [if_neg hgood, if_neg q7, hha, hhb]
  have HLP := Lib.hid hlp
  clear hlp
  cases here with
  | true =>
    go_wp2_with fail
    go_ret
    exact fin _ _ hbw (by rw [HLP.out]; simp)
  | false =>
  cases there with
  | true =>
    go_wp2_with fail
    go_ret
    exact fin _ _ hbw (by rw [HLP.out]; simp)
  | false =>
  have HLP2 : Hid (loginP r.most r.l n t now = if r.most ≤ (r.l.length : Int) then (r.l, 100) else (r.l ++ [(n, t)], 0)) := Lib.hid (by rw [HLP.out]; simp)
  clear HLP
  have HG := Lib.hid (And.intro hgood (And.intro hne (And.intro q3 q4)))
  go_upto_region 11 with (fail)
  have h3 := h.old hbw
  have L2 := fun W (hW : Old W3.drew W) => (h3.blk.drew.old hW).rule
  have L3 := fun W (hW : Old W3.drew W) => (h3.old (w' := W) ⟨hW.os, hW.tape, hW.output, hW.size, hW.block⟩).size 3
  unfold seatCells at L2
  by_cases q8 : r.most ≤ (r.l.length : Int)
  · have d8 : decide (r.most ≤ (r.l.length : Int)) = true := by simpa using q8
    refine wp_region_old (0 :: 1 :: 2 :: 3 :: 4 :: 5 :: 6 :: 7 :: 8 :: 9 :: 10 :: []) (by kernel_rfl) (by kernel_rfl) (fun c a d v w h => by cases d <;> exact h) ?_
    repeat (first | (refine lex_skip rfl (by rfl) ?_; simp only [Act.put, List.setIfInBounds_toArray, List.set]) | (refine lex_quiet (v := ?_) rfl rfl (by rfl) ?_ ?_; rotate_left; (intro W hW; go_simp); (try with_reducible rfl); simp only [Act.put, List.setIfInBounds_toArray, List.set]))
    refine lex_nil ?_
    clear L2 L3
    go_wp2_with fail
    go_ret
    exact fin _ _ hbw.drew (by rw [HLP2.out, if_pos q8])
  have d8 : decide (r.most ≤ (r.l.length : Int)) = false := by simpa using q8
  refine wp_region_old (0 :: 1 :: 2 :: 3 :: 4 :: 5 :: 6 :: 7 :: 8 :: 9 :: 10 :: []) (by kernel_rfl) (by kernel_rfl) (fun c a d v w h => by cases d <;> exact h) ?_
  repeat (first | (refine lex_skip rfl (by rfl) ?_; simp only [Act.put, List.setIfInBounds_toArray, List.set]) | (refine lex_quiet (v := ?_) rfl rfl (by rfl) ?_ ?_; rotate_left; (intro W hW; go_simp); (try with_reducible rfl); simp only [Act.put, List.setIfInBounds_toArray, List.set]))
  refine lex_nil ?_
  clear L2 L3
  go_upto_region 13 with (fail)
  obtain ⟨W4, hW4⟩ : ∃ W, W = W3.drew := ⟨_, rfl⟩
  rw [← hW4]
  have hbw4 : Below w.heap.size w W4 := by rw [hW4]; exact hbw.drew
  have bt4 : Blk W4 T (tokCells t).toArray 24 := by rw [hW4]; exact bt
  clear hW4 h3 bt hbw
  have h4 := h.old hbw4
  have hne4 := h4.ne
  have n2 := h4.ge.2.2.2
  have hTa : T ≠ r.ma := by have := h.ma.lt; omega
  have hTb : T ≠ r.mb := by have := h.mb.lt; omega
  have hln := h4.len
  have hmx : r.l.length < maxLen := by unfold maxLen; omega
  -- the two new entries
  obtain ⟨sA, W5, hr5, ht5, go5⟩ := (h4.ma.keep (w' := W4.drew) rfl).entry keyI Try.underlying48 (by rw [List.length_map]; exact hmx) zeroTok (Rt_tok tok0) (keyOf_conn hn) (Rt_tok t) (by
    rw [List.map_map]
    intro hm
    obtain ⟨x, hx, e⟩ := List.mem_map.1 hm
    have e' : x.1 = n := by simpa [entA, keyC] using e
    have : hereS r.l n = true := List.any_eq_true.2 ⟨x, hx, by simp [e']⟩
    rw [hha] at this
    cases this)
  have hmbx : keyP t ∉ (r.l.map entB).map Prod.fst := by
    rw [List.map_map]
    intro hm
    obtain ⟨x, hx, e⟩ := List.mem_map.1 hm
    have e1 := keyOf_per (h.ok x hx).tok.name (h.ok x hx).tok.role
    have e2 := keyOf_per ht.name ht.role
    have e3 : keyP x.2 = keyP t := e
    rw [e3] at e1
    have := keyPn.inj e1 e2
    simp [perVal] at this
    have : thereS r.l t = true := List.any_eq_true.2 ⟨x, hx, by simp [this]⟩
    rw [hhb] at this
    cases this
  have L1 := fun W (hW : KeepAt (fun x => x = r.s ∨ x = T) W4.drew W) => (show Blk W T (tokCells t).toArray 24 from (hW.2 _ (.inr rfl)).trans bt4).rule
  have L2 := fun W (hW : KeepAt (fun x => x = r.s ∨ x = T) W4.drew W) => (show Blk W r.s (seatCells r) 51 from (hW.2 _ (.inl rfl)).trans h4.blk).rule
  unfold tokCells at L1
  unfold seatCells at L2
  refine wp_region_treeR false (KeepAt (fun x => x = r.s ∨ x = T)) (KeepAt.refl _) (fun _ _ _ h1 h2 => KeepAt.trans h1 h2) (.step 0 (.step 1 (.step 2 (.step 3 (.step 4 (.step 5 (.step 6 (.step 7 (.step 8 (.step 9 (.step 10 (.step 11 (.step 12 (.step 13 (.step 14 (.step 15 (.step 16 (.step 17 (.step 18 (.step 19 (.step 20 (.step 21 .done)))))))))))))))))))))) (by kernel_rfl) (by kernel_rfl) (fun c a d v w h => by cases d <;> exact h) ?_
  repeat (first | (refine tree_skip rfl (by rfl) ?_; simp only [Act.put, List.setIfInBounds_toArray, List.set]) | (refine tree_quiet (v := ?_) rfl rfl (by rfl) ?_ ?_; rotate_left; (intro W hW; go_simp); (try with_reducible rfl); simp only [Act.put, List.setIfInBounds_toArray, List.set]))
  refine tree_loud rfl rfl (by rfl) (fun K hK => ?_)
  go_wp2_with fail
  have kp : ∀ {X Y : World} {M : Nat}, X.mapTurned Y M → T < X.heap.size → r.s < X.heap.size → (M = r.ma ∨ M = r.mb) → KeepAt (fun x => x = r.s ∨ x = T) X Y := fun {X Y M} ht h1 h2 hM => ⟨ht.grown.size, fun x hx => ht.grown.block x (by rcases hx with rfl | rfl <;> assumption) (by
    rcases hx with rfl | rfl <;> rcases hM with rfl | rfl <;> simp <;> first | exact hne4.1 | exact hne4.2 | exact hTa | exact hTb)⟩
  have zT : T < W4.heap.size := bt4.lt
  have zs : r.s < W4.heap.size := h4.blk.lt
  have z5 : W4.heap.size ≤ W5.heap.size := ht5.grown.size
  refine hK _ _ (kp ht5 zT zs (.inl rfl)) ?_
  clear hK K
  obtain ⟨W6, hr6, hm6, ht6⟩ := go5 W5 rfl
  unfold tokVal tokCells at hr6
  repeat (first | (refine tree_skip rfl (by rfl) ?_; simp only [Act.put, List.setIfInBounds_toArray, List.set]) | (refine tree_quiet (v := ?_) rfl rfl (by rfl) ?_ ?_; rotate_left; (intro W hW; go_simp); (try with_reducible rfl); simp only [Act.put, List.setIfInBounds_toArray, List.set]))
  refine tree_loud rfl rfl (by rfl) (fun K hK => ?_)
  go_wp2_with fail
  have z6 : W5.heap.size ≤ W6.heap.size := ht6.grown.size
  refine hK _ _ (kp ht6 (by omega) (by omega) (.inl rfl)) ?_
  clear hK K hr5 hr6 go5
  have zm : r.mb < W4.heap.size := h4.mb.lt
  have hmb6 : GMap W6 Try.prog 53 Ri r.mb (r.l.map entB) := h4.mb.keep ((ht6.grown.block r.mb (by omega) (by simpa using Ne.symm n2)).trans (ht5.grown.block r.mb zm (by simpa using Ne.symm n2)))
  obtain ⟨sB, W7, hr7, ht7, go7⟩ := hmb6.entry keyPn Try.underlying49 (by rw [List.length_map]; exact hmx) zeroInt (Ri_int 0) (keyOf_per ht.name ht.role) (Ri_int n) hmbx
  obtain ⟨W8, hr8, hm8, ht8⟩ := go7 W7 rfl
  unfold perVal at hr7
  refine tree_loud rfl rfl (by rfl) (fun K hK => ?_)
  go_wp2_with fail
  have z7 : W6.heap.size ≤ W7.heap.size := ht7.grown.size
  refine hK _ _ (kp ht7 (by omega) (by omega) (.inr rfl)) ?_
  clear hK K hr7
  repeat (first | (refine tree_skip rfl (by rfl) ?_; simp only [Act.put, List.setIfInBounds_toArray, List.set]) | (refine tree_quiet (v := ?_) rfl rfl (by rfl) ?_ ?_; rotate_left; (intro W hW; go_simp); (try with_reducible rfl); simp only [Act.put, List.setIfInBounds_toArray, List.set]))
  refine tree_loud rfl rfl (by rfl) (fun K hK => ?_)
  go_wp2_with fail
  have z8 : W7.heap.size ≤ W8.heap.size := ht8.grown.size
  refine hK _ _ (kp ht8 (by omega) (by omega) (.inr rfl)) ?_
  clear hK K hr8 L1 L2
  refine tree_done ?_
  go_wp2_with fail
  go_ret
  have hz : t.name.size ≠ 0 := fun e => HG.out.2.2.1 (HG.out.2.1.2 e)
  have hsok : SeatOk (n, t) := ⟨q1, q2, by show 1 ≤ t.name.size; omega, by show t.name.size ≤ 40; omega, q5, q6, ht⟩
  rw [HLP2.out, if_neg (by omega)]
  have tA : ∀ {X Y : World} {M : Nat}, X.mapTurned Y M → (M = r.ma ∨ M = r.mb) → Turn (fun x => x = r.ma ∨ x = r.mb) X Y := fun ht hM => Turn.mapTurned ht hM
  have tt : Turn (fun x => x = r.ma ∨ x = r.mb) W4 W8 := ((((tA ht5 (.inl rfl)).trans (tA ht6 (.inl rfl)) fun _ h => .inl h).trans (tA ht7 (.inr rfl)) fun _ h => .inl h).trans (tA ht8 (.inr rfl)) fun _ h => .inl h).off
  refine ⟨rfl, SStep.pre hbw4 h ⟨⟨h.ge, ?_, ?_, ?_, ?_, ?_, h.most⟩, tt, rfl, rfl, rfl, rfl⟩⟩
  · exact (tt.block r.s zs (by rintro (e | e); exact hne4.1 e; exact hne4.2 e)).trans h4.blk
  · have e1 : W8.heap[r.ma]? = W6.heap[r.ma]? := (ht8.grown.block r.ma (by have := hm6.lt; omega) (by simpa using n2)).trans (ht7.grown.block r.ma hm6.lt (by simpa using n2))
    have := hm6.keep e1
    simpa [entA] using this
  · simpa [entB] using hm8
  · intro x hx
    rcases List.mem_append.1 hx with hx | hx
    · exact h.ok x hx
    · rw [List.mem_singleton.1 hx]; exact hsok
  · dsimp only
    rw [List.length_append]
    simp
    omega
end Go.Proofs.Ytepbeafbfbimlaa

/- A range over a function whose round lays its variables in memory of their own. -/
import Derived.Test.YtepbeafbfbimlaaRangeM
namespace Go.Proofs.Ytepbeafbfbimlaa
open Go Go.RowKit
variable {F : Fence} {n : Nat} {P : Program} {w : World}

/-- The law of a range over such an iterator, the round's variables laid in memory of their own. -/
theorem wpIn_rangeFunc_ownA {α : Type} {g : Operand} {ps : Array Tmp} {assign body : Code} {Q : Exit → Act → World → Prop} {a : Act}
    (hro : F.round = none) (h1 : 1 ≤ n) {gf : Nat} {lb : Array Value} (hg : a.eval g = .func (.func gf) #[] lb) (hFg : F.fn gf) (eg : ∀ args w, (callFunc gf args).run P w = .ok (.enter gf args) w)
    {encs : α → Array Value} {M : List α → α → World → Prop} {Kp : World → World → Prop} {S Sp : List α → Prop} {w0 : World} (hseq : SeqStopsM F (n - 1) P gf lb encs M Kp S Sp w0)
    (hM : OwnFrom w.heap.size (fun (p : List α × α) W => M p.1 p.2 W))
    (hKt : ∀ {A B C : World}, Kp A B → Kp B C → Kp A C) (hKb : ∀ (W : World) (l : Nat) (o o' : Obj), w.heap.size ≤ l → W.heap[l]? = some o → o.isCells = false → o.isWalk = false → Kp W (W.putObj l o')) (hb0 : Below w0.heap.size w0 w) (hps : ∀ x, (encs x).size = ps.size)
    (I : List α → World → Prop) (Ix : Code → List α → World → Prop) (hI : OwnFrom w.heap.size I) (hIx : ∀ c, OwnFrom w.heap.size (Ix c)) (h0 : I [] w) (A : α → Act → World → Prop) (hA : OwnFrom w.heap.size (fun (p : α × Act) W => A p.1 p.2 W))
    (hassign : ∀ (l : Nat) (pre : List α) (x : α) (W : World) (K : Act → World → Prop), I pre W → M pre x W → (∀ a₁ W₁, A x a₁ W₁ → I pre W₁ → M pre x W₁ → KeepsFrom w.heap.size W W₁ → Kp W W₁ → K a₁ W₁) →
      assign.wpIn (F.inRound l) (n - 1 - 1) P (Exit.then K (fun _ _ _ => False)) { tmps := (ps.zip (encs x)).foldl (fun t (p, v) => t.setIfInBounds p v) a.tmps, defers := [] } W)
    (hbody : ∀ (l : Nat) (pre : List α) (x : α) (a₁ : Act) (W : World), A x a₁ W → I pre W → M pre x W → body.wpIn (F.inRound l) (n - 1 - 1) P (ownPostG w.heap.size Kp I Ix (pre ++ [x]) W) a₁ W)
    (hdone : ∀ (D : Nat) (xs : List α) (W : World), w.heap.size ≤ D → S xs → I xs W → W.heap[D]? = some (.deferred (some [])) → Q .normal { a with defers := { target := .collected D, args := #[] } :: a.defers } W)
    (hstop : ∀ (D : Nat) (c : Code) (pre : List α) (W : World), w.heap.size ≤ D → Sp pre → Ix c pre W → W.heap[D]? = some (.deferred (some [])) → c.wpIn F n P Q { a with defers := { target := .collected D, args := #[] } :: a.defers } W) :
    (Code.rangeFunc g ps assign body).wpIn F n P Q a w := by
  refine wpIn_rangeFunc fun fn hfn => ?_
  rw [hro]
  obtain ⟨R, hR⟩ : ∃ R : LoopState → Option Code → Loop, ∀ st pe, R st pe = { state := st, pending := pe, fn, tmps := a.tmps, params := ps, assign, body, defers := w.heap.size } := ⟨_, fun _ _ => rfl⟩
  have start : Held I w.heap.size (R .ready none) [] ((w.alloc (.deferred (some []))).alloc (.loop (R .ready none))) :=
    ⟨hI.alloc _ (hI.alloc _ h0), by have := World.alloc_heap_new (w.alloc (.deferred (some []))) (.loop (R .ready none)); rwa [World.size_alloc] at this, (Below.heap_alloc _ _ _ (by simp)).trans (World.alloc_heap_new w _)⟩
  have bel : Below w0.heap.size w0 ((w.alloc (.deferred (some []))).alloc (.loop (R .ready none))) := hb0.trans ((((Below.refl _ w).alloc (Nat.le_refl _) _).alloc (by simp) _).mono hb0.size)
  have big : w.heap.size ≤ ((w.alloc (.deferred (some []))).alloc (.loop (R .ready none))).heap.size := by simp; omega
  refine ⟨w.heap.size + 1, [{ target := .collected w.heap.size, args := #[] }], ((w.alloc (.deferred (some []))).alloc (.loop (R .ready none))), { target := .fn (.func gf) lb, args := #[.func (.yield (w.heap.size + 1)) #[] #[]] }, (w.alloc (.deferred (some []))).alloc (.loop (R .ready none)), gf,
    #[.func (.yield (w.heap.size + 1)) #[] #[]] ++ lb, ((w.alloc (.deferred (some []))).alloc (.loop (R .ready none))), by rw [hR]; exact run_enterLoop_outer _ _ _ _ _, by simp only [resolve, hg]; simp [go_sem], fun f' hf' => by simp [Target.leads] at hf'; subst hf'; exact hFg, by simp [invoke, go_sem, eg], fun _ => h1, ?_⟩
  have one : ∀ pre x W, Held I w.heap.size (R .ready none) pre W → M pre x W → YieldAt F (n - 1 - 1) P (w.heap.size + 1) (encs x) W fun e W' =>
      (e = .returned (.bool true) ∧ Held I w.heap.size (R .ready none) (pre ++ [x]) W' ∧ Kp W W') ∨ (e = .returned (.bool false) ∧ ∃ c, Held (Ix c) w.heap.size (R .done (some c)) (pre ++ [x]) W') := by
    intro pre x W h hm
    have hy := run_yield (P := P) (args := encs x) h.rcd (by rw [hR]; exact hps x)
    rw [hR] at hy
    refine ⟨fn, _, assign, body, hy, roundIn_of_wpIn hfn (hassign _ pre x W _ h.own hm fun a₁ W₁ hA₁ hi₁ hm₁ hk₁ hkp₁ => ?_)⟩
    have hW₁ : Held I w.heap.size (R .ready none) pre W₁ := ⟨hi₁, hk₁.same _ _ (by omega) h.rcd rfl, hk₁.same _ _ (Nat.le_refl _) h.dfr rfl⟩
    clear h hm
    have h := hW₁
    refine ⟨_, run_beginRound h.rcd (by rw [hR]), ?_⟩
    have h2 := h.turn hI { R .ready none with state := .busy }
    have m2 : M pre x (W₁.putObj (w.heap.size + 1) (.loop { R .ready none with state := .busy })) := hM.putObj (s := (pre, x)) _ hm₁ (by omega) h.rcd rfl
    have k2 := hKt hkp₁ (hKb W₁ _ _ (.loop { R .ready none with state := .busy }) (Nat.le_succ w.heap.size) h.rcd rfl rfl)
    have a2 : A x a₁ (W₁.putObj (w.heap.size + 1) (.loop { R .ready none with state := .busy })) := hA.putObj (s := (x, a₁)) _ hA₁ (by omega) h.rcd rfl
    refine wpIn_mono (hbody _ pre x _ _ a2 h2.own m2) ?_
    generalize W₁ = W₂ at *
    have fin : ∀ (jump : Option Code) (W3 : World), KeepsFrom w.heap.size (W₂.putObj (w.heap.size + 1) (.loop { R .ready none with state := .busy })) W3 → ∀ (I' : List α → World → Prop), OwnFrom w.heap.size I' → I' (pre ++ [x]) W3 →
        (Instr.endRound (w.heap.size + 1) jump).run P W3 = .ok (.bool jump.isNone) (W3.putObj (w.heap.size + 1) (.loop (R (if jump.isNone then .ready else .done) jump))) ∧ W3.heap[w.heap.size + 1]? = some (.loop { R .ready none with state := .busy }) ∧
        Held I' w.heap.size (R (if jump.isNone then .ready else .done) jump) (pre ++ [x]) (W3.putObj (w.heap.size + 1) (.loop (R (if jump.isNone then .ready else .done) jump))) := fun jump W3 hk I' hI' hi => by
      have h3 : Held I' w.heap.size { R .ready none with state := .busy } (pre ++ [x]) W3 := ⟨hi, hk.same _ _ (by omega) h2.rcd rfl, hk.same _ _ (Nat.le_refl _) h2.dfr rfl⟩
      have hr3 := h3.rcd
      have := run_endRound (P := P) jump h3.rcd
      refine ⟨?_, h3.rcd, h3.turn hI' _⟩
      rw [hR] at this ⊢
      exact this
    rintro e a3 W3 hp
    cases e with
    | normal =>
      obtain ⟨hk3, hkp3, hi3⟩ := hp
      obtain ⟨hr, hl3, h4⟩ := fin none W3 hk3 I hI hi3
      exact ⟨_, _, hr, .inl ⟨rfl, h4, hKt (hKt k2 hkp3) (hKb _ _ _ _ (by omega) hl3 rfl rfl)⟩⟩
    | ret => exact ⟨_, _, (fin (some .ret) W3 hp.1 _ (hIx _) hp.2).1, .inr ⟨rfl, _, (fin (some .ret) W3 hp.1 _ (hIx _) hp.2).2.2⟩⟩
    | exit id => exact ⟨_, _, (fin (some (.exit id)) W3 hp.1 _ (hIx _) hp.2).1, .inr ⟨rfl, _, (fin (some (.exit id)) W3 hp.1 _ (hIx _) hp.2).2.2⟩⟩
    | goto t => exact ⟨_, _, (fin (some (.goto t)) W3 hp.1 _ (hIx _) hp.2).1, .inr ⟨rfl, _, (fin (some (.goto t)) W3 hp.1 _ (hIx _) hp.2).2.2⟩⟩
    | panic ch => exact hp.elim
    | outgrown => exact hp.elim
  refine (hseq (w.heap.size + 1) (Held I w.heap.size (R .ready none)) (fun pre W => ∃ c, Held (Ix c) w.heap.size (R .done (some c)) pre W) _ bel (Held.abides hI big) (fun s X Y row hs hg' hr => by obtain ⟨c, hc⟩ := hs; exact ⟨c, Held.abides (hIx c) big s X Y row hc hg' hr⟩) one start).mono ?_
  rintro e W2 ⟨⟨v, rfl⟩, (⟨xs, hS, h⟩ | ⟨pre, hSp, c, h⟩)⟩
  · refine ⟨none, _, by have := run_endLoop (P := P) h.rcd (by rw [hR]; simp); rw [hR] at this; exact this, ?_⟩
    exact hdone _ xs _ (Nat.le_refl _) hS (hI.putObj _ h.own (by omega) h.rcd rfl) ((World.putObj_heap_other (by omega)).trans h.dfr)
  · refine ⟨some c, _, by have := run_endLoop (P := P) h.rcd (by rw [hR]; simp); rw [hR] at this; exact this, ?_⟩
    exact hstop _ c pre _ (Nat.le_refl _) hSp ((hIx c).putObj _ h.own (by omega) h.rcd rfl) ((World.putObj_heap_other (by omega)).trans h.dfr)
theorem wpIn_rangeFunc_ownT {α : Type} {g : Operand} {ps : Array Tmp} {assign body : Code} {Q : Exit → Act → World → Prop} {a : Act}
    (hro : F.round = none) (h1 : 1 ≤ n) {gf : Nat} {lb : Array Value} (hg : a.eval g = .func (.func gf) #[] lb) (hFg : F.fn gf) (eg : ∀ args w, (callFunc gf args).run P w = .ok (.enter gf args) w)
    {encs : α → Array Value} {M : List α → α → World → Prop} {Kp : World → World → Prop} {S Sp : List α → Prop} {w0 : World} (hseq : SeqStopsM F (n - 1) P gf lb encs M Kp S Sp w0)
    (hM : OwnFrom w.heap.size (fun (p : List α × α) W => M p.1 p.2 W))
    (hKt : ∀ {A B C : World}, Kp A B → Kp B C → Kp A C) (hKb : ∀ (W : World) (l : Nat) (o o' : Obj), w.heap.size ≤ l → W.heap[l]? = some o → o.isCells = false → o.isWalk = false → Kp W (W.putObj l o')) (hb0 : Below w0.heap.size w0 w) (hps : ∀ x, (encs x).size = ps.size)
    (I : List α → World → Prop) (Ix : Code → List α → World → Prop) (hI : OwnFrom w.heap.size I) (hIx : ∀ c, OwnFrom w.heap.size (Ix c)) (h0 : I [] w) (f : α → Nat → Act) (A : α → Nat → World → Prop) (hA : OwnFrom w.heap.size (fun (p : α × Nat) W => A p.1 p.2 W))
    (hassign : ∀ (l : Nat) (pre : List α) (x : α) (W : World) (K : Act → World → Prop), I pre W → M pre x W → (∀ T W₁, A x T W₁ → I pre W₁ → M pre x W₁ → KeepsFrom w.heap.size W W₁ → Kp W W₁ → K (f x T) W₁) →
      assign.wpIn (F.inRound l) (n - 1 - 1) P (Exit.then K (fun _ _ _ => False)) { tmps := (ps.zip (encs x)).foldl (fun t (p, v) => t.setIfInBounds p v) a.tmps, defers := [] } W)
    (hbody : ∀ (l : Nat) (pre : List α) (x : α) (T : Nat) (W : World), A x T W → I pre W → M pre x W → body.wpIn (F.inRound l) (n - 1 - 1) P (ownPostG w.heap.size Kp I Ix (pre ++ [x]) W) (f x T) W)
    (hdone : ∀ (D : Nat) (xs : List α) (W : World), w.heap.size ≤ D → S xs → I xs W → W.heap[D]? = some (.deferred (some [])) → Q .normal { a with defers := { target := .collected D, args := #[] } :: a.defers } W)
    (hstop : ∀ (D : Nat) (c : Code) (pre : List α) (W : World), w.heap.size ≤ D → Sp pre → Ix c pre W → W.heap[D]? = some (.deferred (some [])) → c.wpIn F n P Q { a with defers := { target := .collected D, args := #[] } :: a.defers } W) :
    (Code.rangeFunc g ps assign body).wpIn F n P Q a w := by
  exact wpIn_rangeFunc_ownA hro h1 hg hFg eg hseq hM hKt hKb hb0 hps I Ix hI hIx h0 (fun x a W => ∃ T, a = f x T ∧ A x T W) (fun p X Y row hp hg hr => by
    obtain ⟨T, e, ha⟩ := hp
    exact ⟨T, e, hA (p.1, T) X Y row ha hg hr⟩)
    (fun l pre x W K hI hM hK => hassign l pre x W K hI hM fun T W₁ ha hi hm hk hkp => hK _ _ ⟨T, rfl, ha⟩ hi hm hk hkp)
    (fun l pre x a₁ W ha hi hm => by
      obtain ⟨T, rfl, ha⟩ := ha
      exact hbody l pre x T W ha hi hm) hdone hstop
/-- A postcondition that no panic meets. -/
def noPanic (Q : Exit → Act → World → Prop) : Exit → Act → World → Prop
  | .panic _, _, _ => False
  | e, a, w => Q e a w
theorem noPanic_mono {Q : Exit → Act → World → Prop} : ∀ (e : Exit) (a : Act) (w : World), noPanic Q e a w → Q e a w := fun e a w h => by
  cases e <;> first | exact h | exact h.elim
end Go.Proofs.Ytepbeafbfbimlaa

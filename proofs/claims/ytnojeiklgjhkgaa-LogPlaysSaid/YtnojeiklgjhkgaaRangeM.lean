/- A range over a function whose iterator hands memory of its own making to the round: the round is told of it. -/
import Derived.RangeFuncNested
import Derived.RangeFuncBound
import Derived.RangeFuncCalls
import Derived.RangeFuncLeaves
import Derived.Below
namespace Go.Proofs.Ytnojeiklgjhkgaa
open Go Go.RowKit
variable {F : Fence} {n : Nat} {P : Program} {w : World}

/-- An iterator's contract where each round may rest on what M says of the thing handed to it. -/
def SeqStopsM {α : Type} (F : Fence) (n : Nat) (P : Program) (g : Nat) (lb : Array Value) (encs : α → Array Value) (M : List α → α → World → Prop) (Kp : World → World → Prop) (S Sp : List α → Prop) (w : World) : Prop :=
  ∀ (l : Nat) (J Jx : List α → World → Prop) (W : World), Below w.heap.size w W → AbidesFrom W.heap.size J → AbidesFrom W.heap.size Jx →
    (∀ pre x W1, J pre W1 → M pre x W1 → YieldAt F (n - 1) P l (encs x) W1 fun e W' =>
      (e = .returned (.bool true) ∧ J (pre ++ [x]) W' ∧ Kp W1 W') ∨ (e = .returned (.bool false) ∧ Jx (pre ++ [x]) W')) →
    J [] W →
    CallsIn F n P g (#[.func (.yield l) #[] #[]] ++ lb) W fun e W' => (∃ v, e = .returned v) ∧ ((∃ xs, S xs ∧ J xs W') ∨ (∃ pre, Sp pre ∧ Jx pre W'))

/-- The loop's two own blocks, and what the caller holds. -/
structure Held {α : Type} (I : List α → World → Prop) (b : Nat) (r : Loop) (pre : List α) (W : World) : Prop where
  own : I pre W
  rcd : W.heap[b + 1]? = some (.loop r)
  dfr : W.heap[b]? = some (.deferred (some []))
theorem Held.abides {α : Type} {I : List α → World → Prop} {b : Nat} {r : Loop} (hI : OwnFrom b I) {B : Nat} (hB : b ≤ B) : AbidesFrom B (Held I b r) := fun s X Y row hs hg hr =>
  ⟨hI s X Y row hs.own hg fun q e => by obtain ⟨h1, o, ho, hw⟩ := hr q e; exact ⟨Nat.le_trans hB h1, o, ho, Obj.not_cells_of_walk hw⟩, (grownBy_keeps hg (fun q e => (hr q e).2) hs.rcd rfl).trans hs.rcd, (grownBy_keeps hg (fun q e => (hr q e).2) hs.dfr rfl).trans hs.dfr⟩
theorem Held.turn {α : Type} {I : List α → World → Prop} {b : Nat} {r : Loop} {pre : List α} {W : World} (hI : OwnFrom b I) (h : Held I b r pre W) (r' : Loop) : Held I b r' pre (W.putObj (b + 1) (.loop r')) :=
  ⟨hI.putObj _ h.own (by omega) h.rcd rfl, World.putObj_heap_same (Array.getElem?_eq_some_iff.1 h.rcd).1, (World.putObj_heap_other (by omega)).trans h.dfr⟩

/-- The law of a range over such an iterator. -/
theorem wpIn_rangeFunc_ownM {α : Type} {g : Operand} {ps : Array Tmp} {assign body : Code} {Q : Exit → Act → World → Prop} {a : Act}
    (hro : F.round = none) (h1 : 1 ≤ n) {gf : Nat} {lb : Array Value} (hg : a.eval g = .func (.func gf) #[] lb) (hFg : F.fn gf) (eg : ∀ args w, (callFunc gf args).run P w = .ok (.enter gf args) w)
    {encs : α → Array Value} {M : List α → α → World → Prop} {Kp : World → World → Prop} {S Sp : List α → Prop} {w0 : World} (hseq : SeqStopsM F (n - 1) P gf lb encs M Kp S Sp w0)
    (hM : OwnFrom w.heap.size (fun (p : List α × α) W => M p.1 p.2 W))
    (hKt : ∀ {A B C : World}, Kp A B → Kp B C → Kp A C) (hKb : ∀ (W : World) (l : Nat) (o o' : Obj), w.heap.size ≤ l → W.heap[l]? = some o → o.isCells = false → o.isWalk = false → Kp W (W.putObj l o')) (hb0 : Below w0.heap.size w0 w) (hps : ∀ x, (encs x).size = ps.size)
    (I : List α → World → Prop) (Ix : Code → List α → World → Prop) (hI : OwnFrom w.heap.size I) (hIx : ∀ c, OwnFrom w.heap.size (Ix c)) (h0 : I [] w) (a₁ : α → Act)
    (hassign : ∀ (l : Nat) (x : α) (W : World) (K : Act → World → Prop), K (a₁ x) W →
      assign.wpIn (F.inRound l) (n - 1 - 1) P (Exit.then K (fun _ _ _ => False)) { tmps := (ps.zip (encs x)).foldl (fun t (p, v) => t.setIfInBounds p v) a.tmps, defers := [] } W)
    (hbody : ∀ (l : Nat) (pre : List α) (x : α) (W : World), I pre W → M pre x W → body.wpIn (F.inRound l) (n - 1 - 1) P (ownPostG w.heap.size Kp I Ix (pre ++ [x]) W) (a₁ x) W)
    (hdone : ∀ (D : Nat) (xs : List α) (W : World), w.heap.size ≤ D → S xs → I xs W → W.heap[D]? = some (.deferred (some [])) → Q .normal { a with defers := { target := .collected D, args := #[] } :: a.defers } W)
    (hstop : ∀ (D : Nat) (c : Code) (pre : List α) (W : World), w.heap.size ≤ D → Sp pre → Ix c pre W → W.heap[D]? = some (.deferred (some [])) → c.wpIn F n P Q { a with defers := { target := .collected D, args := #[] } :: a.defers } W) :
    (Code.rangeFunc g ps assign body).wpIn F n P Q a w := by
  refine wpIn_rangeFunc fun fn hfn => ?_
  rw [hro]
  obtain ⟨R, hR⟩ : ∃ R : LoopState → Option Code → Loop, ∀ st pe, R st pe = { state := st, pending := pe, fn, tmps := a.tmps, params := ps, assign, body, defers := w.heap.size } := ⟨_, fun _ _ => rfl⟩
  have start : Held I w.heap.size (R .ready none) [] ((w.alloc (.deferred (some []))).alloc (.loop (R .ready none))) :=
    ⟨hI.alloc _ (hI.alloc _ h0), by have := World.alloc_heap_new (w.alloc (.deferred (some []))) (.loop (R .ready none)); rwa [World.size_alloc] at this, (Below.heap_alloc _ _ _ (by simp)).trans (World.alloc_heap_new w _)⟩
  have bel : Below w0.heap.size w0 ((w.alloc (.deferred (some []))).alloc (.loop (R .ready none))) := hb0.trans ((((Below.refl _ w).alloc (Nat.le_refl _) _).alloc (by simp) _).mono hb0.size)
  have big : w.heap.size ≤ ((w.alloc (.deferred (some []))).alloc (.loop (R .ready none))).heap.size := by simp; omega
  refine ⟨w.heap.size + 1, [{ target := .collected w.heap.size, args := #[] }], ((w.alloc (.deferred (some []))).alloc (.loop (R .ready none))), { target := .fn (.func gf) lb, args := #[.func (.yield (w.heap.size + 1)) #[] #[]] }, (w.alloc (.deferred (some []))).alloc (.loop (R .ready none)), gf,
    #[.func (.yield (w.heap.size + 1)) #[] #[]] ++ lb, ((w.alloc (.deferred (some []))).alloc (.loop (R .ready none))), by rw [hR]; exact run_enterLoop_outer _ _ _ _ _, by simp only [resolve, hg]; simp [go_sem], fun f' hf' => by simp [Target.leads] at hf'; subst hf'; exact hFg, by simp [invoke, go_sem, eg], fun _ => h1, ?_⟩
  have one : ∀ pre x W, Held I w.heap.size (R .ready none) pre W → M pre x W → YieldAt F (n - 1 - 1) P (w.heap.size + 1) (encs x) W fun e W' =>
      (e = .returned (.bool true) ∧ Held I w.heap.size (R .ready none) (pre ++ [x]) W' ∧ Kp W W') ∨ (e = .returned (.bool false) ∧ ∃ c, Held (Ix c) w.heap.size (R .done (some c)) (pre ++ [x]) W') := by
    intro pre x W h hm
    have hy := run_yield (P := P) (args := encs x) h.rcd (by rw [hR]; exact hps x)
    rw [hR] at hy
    refine ⟨fn, _, assign, body, hy, roundIn_of_wpIn hfn (hassign _ x W _ ⟨_, run_beginRound h.rcd (by rw [hR]), ?_⟩)⟩
    have h2 := h.turn hI { R .ready none with state := .busy }
    have m2 : M pre x (W.putObj (w.heap.size + 1) (.loop { R .ready none with state := .busy })) := hM.putObj (s := (pre, x)) _ hm (by omega) h.rcd rfl
    have k2 := hKb W _ _ (.loop { R .ready none with state := .busy }) (Nat.le_succ w.heap.size) h.rcd rfl rfl
    refine wpIn_mono (hbody _ pre x _ h2.own m2) ?_
    have fin : ∀ (jump : Option Code) (W3 : World), KeepsFrom w.heap.size (W.putObj (w.heap.size + 1) (.loop { R .ready none with state := .busy })) W3 → ∀ (I' : List α → World → Prop), OwnFrom w.heap.size I' → I' (pre ++ [x]) W3 →
        (Instr.endRound (w.heap.size + 1) jump).run P W3 = .ok (.bool jump.isNone) (W3.putObj (w.heap.size + 1) (.loop (R (if jump.isNone then .ready else .done) jump))) ∧ W3.heap[w.heap.size + 1]? = some (.loop { R .ready none with state := .busy }) ∧
        Held I' w.heap.size (R (if jump.isNone then .ready else .done) jump) (pre ++ [x]) (W3.putObj (w.heap.size + 1) (.loop (R (if jump.isNone then .ready else .done) jump))) := fun jump W3 hk I' hI' hi => by
      have h3 : Held I' w.heap.size { R .ready none with state := .busy } (pre ++ [x]) W3 := ⟨hi, hk.same _ _ (by omega) h2.rcd rfl, hk.same _ _ (Nat.le_refl _) h2.dfr rfl⟩
      have hr3 := h3.rcd
      have := run_endRound (P := P) jump h3.rcd
      refine ⟨?_, h3.rcd, h3.turn hI' _⟩
      rw [hR] at this ⊢
      exact this
    rintro e a3 W3 hp
    cases e with
    | normal =>
      obtain ⟨hk3, hkp3, hi3⟩ := hp
      obtain ⟨hr, hl3, h4⟩ := fin none W3 hk3 I hI hi3
      exact ⟨_, _, hr, .inl ⟨rfl, h4, hKt (hKt k2 hkp3) (hKb _ _ _ _ (by omega) hl3 rfl rfl)⟩⟩
    | ret => exact ⟨_, _, (fin (some .ret) W3 hp.1 _ (hIx _) hp.2).1, .inr ⟨rfl, _, (fin (some .ret) W3 hp.1 _ (hIx _) hp.2).2.2⟩⟩
    | exit id => exact ⟨_, _, (fin (some (.exit id)) W3 hp.1 _ (hIx _) hp.2).1, .inr ⟨rfl, _, (fin (some (.exit id)) W3 hp.1 _ (hIx _) hp.2).2.2⟩⟩
    | goto t => exact ⟨_, _, (fin (some (.goto t)) W3 hp.1 _ (hIx _) hp.2).1, .inr ⟨rfl, _, (fin (some (.goto t)) W3 hp.1 _ (hIx _) hp.2).2.2⟩⟩
    | panic ch => exact hp.elim
    | outgrown => exact hp.elim
  refine (hseq (w.heap.size + 1) (Held I w.heap.size (R .ready none)) (fun pre W => ∃ c, Held (Ix c) w.heap.size (R .done (some c)) pre W) _ bel (Held.abides hI big) (fun s X Y row hs hg' hr => by obtain ⟨c, hc⟩ := hs; exact ⟨c, Held.abides (hIx c) big s X Y row hc hg' hr⟩) one start).mono ?_
  rintro e W2 ⟨⟨v, rfl⟩, (⟨xs, hS, h⟩ | ⟨pre, hSp, c, h⟩)⟩
  · refine ⟨none, _, by have := run_endLoop (P := P) h.rcd (by rw [hR]; simp); rw [hR] at this; exact this, ?_⟩
    exact hdone _ xs _ (Nat.le_refl _) hS (hI.putObj _ h.own (by omega) h.rcd rfl) ((World.putObj_heap_other (by omega)).trans h.dfr)
  · refine ⟨some c, _, by have := run_endLoop (P := P) h.rcd (by rw [hR]; simp); rw [hR] at this; exact this, ?_⟩
    exact hstop _ c pre _ (Nat.le_refl _) hSp ((hIx c).putObj _ h.own (by omega) h.rcd rfl) ((World.putObj_heap_other (by omega)).trans h.dfr)
end Go.Proofs.Ytnojeiklgjhkgaa

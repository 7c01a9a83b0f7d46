/-
  A range over an iterator that keeps what is left in a cell of its own: the law, for bodies that always go on.
-/
import Derived.Test.YtjamgkcmpcnfpaaGreatDoorBase
import Derived.RangeFuncNested
import Derived.RangeFuncBound
import Derived.RangeFuncCalls
import Derived.RangeFuncLeaves
import Derived.OwnWalkIn
import Derived.TacticsInMore
import Derived.LoopNIn
import Derived.LoopIn
namespace Go.Proofs.YtjamgkcmpcnfpaaGreatDoor
open Go.RowKit

/-- Below B all blocks but g are as they were. -/
def KeptTo (B g : Nat) (w w' : World) : Prop := ∀ k, k < B → k ≠ g → w'.heap[k]? = w.heap[k]?

theorem KeptTo.trans {B g : Nat} {a b c : World} (h : KeptTo B g a b) (k : KeptTo B g b c) : KeptTo B g a c := fun i hi hg => (k i hi hg).trans (h i hi hg)

theorem KeptTo.putObj {B g : Nat} (w : World) (l : Nat) (o : Obj) (hl : B ≤ l) : KeptTo B g w (w.putObj l o) := fun k hk _ => World.putObj_heap_other (by omega)

/-- A body's walk that always goes on. -/
def goesOn (R : World → Prop) : Exit → Act → World → Prop
  | .normal, _, w => R w
  | _, _, _ => False

theorem setCell_heap_loop {w : World} {p : Addr} {u : Value} {k : Nat} (h : k ≠ p.block) : (w.setCell p u).heap[k]? = w.heap[k]? := Below.heap_setCell _ _ _ _ h

variable {F : Fence} {n : Nat} {P : Program}

theorem wpIn_range_cell {α : Type} {g : Operand} {ps : Array Tmp} {assign body : Code} {Q : Exit → Act → World → Prop} {a : Act} {w : World} {gf : Nat} {lb : Array Value} {enc : α → Value} {parts : List α} {p : Addr} {gb : Nat}
    (hro : F.round = none) (h1 : 1 ≤ n) (hg : a.eval g = .func (.func gf) #[] lb) (hFg : F.fn gf) (eg : ∀ args w, (callFunc gf args).run P w = .ok (.enter gf args) w) (hp : p.block < w.heap.size) (hps : ps.size = 1)
    (hseq : ∀ (l : Nat) (K : List α → World → Prop) (W : World), Below w.heap.size w W → (∀ pre X u, K pre X → K pre (X.setCell p u)) → (∀ pre X, K pre X → w.heap.size ≤ X.heap.size) →
      (∀ pre x X, K pre X → pre ++ [x] <+: parts → YieldAt F (n - 1 - 1) P l #[enc x] X fun e X' => e = .returned (.bool true) ∧ K (pre ++ [x]) X' ∧ KeptTo w.heap.size gb X X') →
      K [] W → CallsIn F (n - 1) P gf (#[.func (.yield l) #[] #[]] ++ lb) W fun e X' => (∃ v, e = .returned v) ∧ K parts X')
    (I : List α → World → Prop) (hI : OwnFrom w.heap.size I) (hIp : ∀ pre X u, I pre X → I pre (X.setCell p u)) (h0 : I [] w) (a₁ : α → Act)
    (hassign : ∀ (l : Nat) (x : α) (W : World) (K : Act → World → Prop), K (a₁ x) W →
      assign.wpIn (F.inRound l) (n - 1 - 1) P (Exit.then K (fun _ _ _ => False)) { tmps := (ps.zip #[enc x]).foldl (fun t (p, v) => t.setIfInBounds p v) a.tmps, defers := [] } W)
    (hbody : ∀ (l : Nat) (pre : List α) (x : α) (X : World), I pre X → w.heap.size ≤ X.heap.size → pre ++ [x] <+: parts → body.wpIn (F.inRound l) (n - 1 - 1) P (goesOn fun X' => KeepsOthers X X' ∧ KeptTo w.heap.size gb X X' ∧ I (pre ++ [x]) X') (a₁ x) X)
    (hdone : ∀ (D : Nat) (X : World), w.heap.size ≤ D → I parts X → X.heap[D]? = some (.deferred (some [])) → Q .normal { a with defers := { target := .collected D, args := #[] } :: a.defers } X) :
    (Code.rangeFunc g ps assign body).wpIn F n P Q a w := by
  refine wpIn_rangeFunc fun fn hfn => ?_
  rw [hro]
  let rec0 : LoopState → Loop := fun st => { state := st, pending := none, fn, tmps := a.tmps, params := ps, assign, body, defers := w.heap.size }
  let W1 : World := (w.alloc (.deferred (some []))).alloc (.loop (rec0 .ready))
  have hW1 : W1 = (w.alloc (.deferred (some []))).alloc (.loop (rec0 .ready)) := rfl
  have hL : W1.heap[w.heap.size + 1]? = some (.loop (rec0 .ready)) := by
    have := World.alloc_heap_new (w.alloc (.deferred (some []))) (.loop (rec0 .ready)); rwa [World.size_alloc] at this
  have hD : W1.heap[w.heap.size]? = some (.deferred (some [])) := (Below.heap_alloc _ _ _ (by simp)).trans (World.alloc_heap_new w _)
  have hI1 : I [] W1 := hI.alloc _ (hI.alloc _ h0)
  have hB1 : Below w.heap.size w W1 := ((Below.refl _ w).alloc (Nat.le_refl _) _).alloc (by simp) _
  refine ⟨w.heap.size + 1, [{ target := .collected w.heap.size, args := #[] }], W1, { target := .fn (.func gf) lb, args := #[.func (.yield (w.heap.size + 1)) #[] #[]] }, W1, gf,
    #[.func (.yield (w.heap.size + 1)) #[] #[]] ++ lb, W1, run_enterLoop_outer _ _ _ _ _, ?_, ?_, ?_, fun _ => h1, ?_⟩
  · simp only [resolve, hg]
    simp [go_sem]
  · intro f' hf'; simp [Target.leads] at hf'; subst hf'; exact hFg
  · simp [invoke, go_sem, eg]
  clear_value W1
  -- what stands between two rounds: the caller's word, and the loop's two blocks
  let K : List α → World → Prop := fun pre X => I pre X ∧ X.heap[w.heap.size + 1]? = some (.loop (rec0 .ready)) ∧ X.heap[w.heap.size]? = some (.deferred (some []))
  refine (hseq (w.heap.size + 1) K W1 hB1 ?_ ?_ ?_ ⟨hI1, hL, hD⟩).mono ?_
  · rintro pre X u ⟨hi, hl, hd⟩
    exact ⟨hIp _ _ _ hi, (setCell_heap_loop (by omega)).trans hl, (setCell_heap_loop (by omega)).trans hd⟩
  · rintro pre X ⟨_, hl, _⟩
    have := (Array.getElem?_eq_some_iff.1 hl).1; omega
  · rintro pre x X ⟨hi, hl, hd⟩ hpre
    have hsz := (Array.getElem?_eq_some_iff.1 hl).1
    refine ⟨fn, _, assign, body, run_yield hl (by simpa [rec0] using hps.symm), roundIn_of_wpIn hfn (hassign _ x X _ ⟨_, run_beginRound hl rfl, ?_⟩)⟩
    have hl2 : (X.putObj (w.heap.size + 1) (.loop { rec0 .ready with state := .busy })).heap[w.heap.size + 1]? = some (.loop { rec0 .ready with state := .busy }) := World.putObj_heap_same hsz
    have hd2 : (X.putObj (w.heap.size + 1) (.loop { rec0 .ready with state := .busy })).heap[w.heap.size]? = some (.deferred (some [])) := (World.putObj_heap_other (by omega)).trans hd
    refine wpIn_mono (hbody _ pre x _ (hI.putObj _ hi (by omega) hl rfl) (by simp; omega) hpre) ?_
    rintro e a3 X3 hq
    cases e with
    | normal =>
      obtain ⟨hk, hkt, hi3⟩ := hq
      have hl3 := hk.same _ _ hl2 rfl
      refine ⟨_, _, run_endRound none hl3, rfl, ⟨hI.putObj _ hi3 (by omega) hl3 rfl, World.putObj_heap_same (Array.getElem?_eq_some_iff.1 hl3).1, (World.putObj_heap_other (by omega)).trans (hk.same _ _ hd2 rfl)⟩, ?_⟩
      exact ((KeptTo.putObj X _ _ (by omega)).trans hkt).trans (KeptTo.putObj X3 _ _ (by omega))
    | ret => exact hq.elim
    | exit id => exact hq.elim
    | goto t => exact hq.elim
    | panic ch => exact hq.elim
    | outgrown => exact hq.elim
  · rintro e X ⟨⟨v, rfl⟩, hi, hl, hd⟩
    exact ⟨none, _, run_endLoop hl (by simp [rec0]), hdone _ _ (Nat.le_refl _) (hI.putObj _ hi (by omega) hl rfl) ((World.putObj_heap_other (by omega)).trans hd)⟩

end Go.Proofs.YtjamgkcmpcnfpaaGreatDoor

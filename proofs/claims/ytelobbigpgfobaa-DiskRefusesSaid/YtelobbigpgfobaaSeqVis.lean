/-
  A range over a function whose rounds all go on: the iterator may look at the caller's invariant, and tells the round what it yields. No condition.
-/
import Derived.Test.YtelobbigpgfobaaCells
import Derived.RangeFuncFrom
import Derived.RangeFuncCalls
namespace Go.Proofs.Ytelobbigpgfobaa
open Go.RowKit
set_option linter.unusedVariables false
/-- The iterator's word: whatever J the rounds keep, that has the caller's invariant I in it: it yields x only where Px says so, and ends at S. -/
def SeqVis {α : Type} (F : Fence) (n : Nat) (P : Program) (gf : Nat) (lb : Array Value) (encs : α → Array Value) (I : List α → World → Prop) (Px : List α → α → Prop) (S : List α → Prop) (w : World) : Prop :=
  ∀ (l : Nat) (J : List α → World → Prop) (W : World), Below w.heap.size w W → (∀ pre V, J pre V → I pre V) →
    (∀ pre x V, J pre V → Px pre x → YieldAt F (n - 1) P l (encs x) V fun e V' => e = .returned (.bool true) ∧ J (pre ++ [x]) V') →
    J [] W → CallsIn F n P gf (#[.func (.yield l) #[] #[]] ++ lb) W fun e W' => (∃ v, e = .returned v) ∧ ∃ xs, S xs ∧ J xs W'
/-- A round goes on, and leaves what is no cells. -/
def visPost {α : Type} (I : List α → World → Prop) (xs : List α) (W : World) : Exit → Act → World → Prop
  | .normal, _, W' => KeepsOthers W W' ∧ I xs W'
  | _, _, _ => False
theorem wpIn_rangeFunc_vis {F : Fence} {n : Nat} {P : Program} {α : Type} {g : Operand} {ps : Array Tmp} {assign body : Code} {Q : Exit → Act → World → Prop} {a : Act} {w : World}
    (hro : F.round = none) (h1 : 1 ≤ n) {gf : Nat} {lb : Array Value} (hg : a.eval g = .func (.func gf) #[] lb) (hFg : F.fn gf) (eg : ∀ args w, (callFunc gf args).run P w = .ok (.enter gf args) w)
    {encs : α → Array Value} (I : List α → World → Prop) {Px : List α → α → Prop} {S : List α → Prop} (hseq : SeqVis F (n - 1) P gf lb encs I Px S w) (hps : ∀ x, (encs x).size = ps.size)
    (hI : OwnFrom w.heap.size I) (h0 : I [] w) (a₁ : α → Act)
    (hassign : ∀ (l : Nat) (x : α) (W : World) (K : Act → World → Prop), K (a₁ x) W →
      assign.wpIn (F.inRound l) (n - 1 - 1) P (Exit.then K (fun _ _ _ => False)) { tmps := (ps.zip (encs x)).foldl (fun t (p, v) => t.setIfInBounds p v) a.tmps, defers := [] } W)
    (hbody : ∀ (l : Nat) (pre : List α) (x : α) (W : World), I pre W → Px pre x → body.wpIn (F.inRound l) (n - 1 - 1) P (visPost I (pre ++ [x]) W) (a₁ x) W)
    (hdone : ∀ (D : Nat) (xs : List α) (W : World), w.heap.size ≤ D → S xs → I xs W → W.heap[D]? = some (.deferred (some [])) → Q .normal { a with defers := { target := .collected D, args := #[] } :: a.defers } W) :
    (Code.rangeFunc g ps assign body).wpIn F n P Q a w := by
  refine wpIn_rangeFunc fun fn hfn => ?_
  rw [hro]
  let D : Nat := w.heap.size
  let l : Nat := w.heap.size + 1
  let rec0 : Loop := { state := .ready, pending := none, fn, tmps := a.tmps, params := ps, assign, body, defers := w.heap.size }
  let V0 : World := w.alloc (.deferred (some []))
  have hD0 : V0.heap[D]? = some (.deferred (some [])) := World.alloc_heap_new w _
  have hs0 : V0.heap.size = l := by simp [V0, l]
  have hD1 : (V0.alloc (.loop rec0)).heap[D]? = some (.deferred (some [])) := (Below.heap_alloc _ _ _ (by rw [hs0]; simp [D, l])).trans hD0
  have hl1 : (V0.alloc (.loop rec0)).heap[l]? = some (.loop rec0) := by have := World.alloc_heap_new V0 (.loop rec0); rwa [hs0] at this
  have hb : Below w.heap.size w (V0.alloc (.loop rec0)) := ((Below.refl _ w).alloc (Nat.le_refl _) _).alloc (by simp) _
  have hi1 : I [] (V0.alloc (.loop rec0)) := hI.alloc _ (hI.alloc _ h0)
  refine ⟨l, [{ target := .collected D, args := #[] }], V0.alloc (.loop rec0), { target := .fn (.func gf) lb, args := #[.func (.yield l) #[] #[]] }, V0.alloc (.loop rec0), gf,
    #[.func (.yield l) #[] #[]] ++ lb, V0.alloc (.loop rec0), run_enterLoop_outer fn a.tmps ps assign body, ?_, ?_, ?_, fun _ => h1, ?_⟩
  · simp only [resolve, hg]
    simp [go_sem]
  · intro f' hf'
    simp [Target.leads] at hf'
    subst hf'
    exact hFg
  · simp [invoke, go_sem, eg]
  refine (hseq l (fun pre W => I pre W ∧ W.heap[l]? = some (.loop rec0) ∧ W.heap[D]? = some (.deferred (some []))) _ hb (fun _ _ h => h.1) ?_ ⟨hi1, hl1, hD1⟩).mono ?_
  · rintro pre x W ⟨hi, hl, hd⟩ hpx
    have hlW : l < W.heap.size := (Array.getElem?_eq_some_iff.1 hl).1
    refine ⟨fn, _, assign, body, run_yield hl (hps x), roundIn_of_wpIn hfn (hassign _ x W _ ⟨_, run_beginRound hl rfl, ?_⟩)⟩
    let busy : Loop := { rec0 with state := .busy }
    have hl2 : (W.putObj l (.loop busy)).heap[l]? = some (.loop busy) := World.putObj_heap_same hlW
    have hd2 : (W.putObj l (.loop busy)).heap[D]? = some (.deferred (some [])) := (World.putObj_heap_other (by simp [D, l])).trans hd
    refine wpIn_mono (hbody _ pre x _ (hI.putObj _ hi (by simp [l]) hl rfl) hpx) ?_
    intro e a3 W3 hp
    cases e with
    | normal =>
      obtain ⟨hk, hi3⟩ := hp
      have hl3 := hk.same _ _ hl2 rfl
      have hd3 := hk.same _ _ hd2 rfl
      exact ⟨_, _, run_endRound none hl3, rfl, hI.putObj _ hi3 (by simp [l]) hl3 rfl, World.putObj_heap_same (Array.getElem?_eq_some_iff.1 hl3).1, (World.putObj_heap_other (by simp [D, l])).trans hd3⟩
    | _ => exact hp.elim
  · rintro e W2 ⟨⟨v, rfl⟩, xs, hS, hi, hl, hd⟩
    exact ⟨none, _, run_endLoop hl (by simp [rec0]), hdone _ xs _ (Nat.le_refl _) hS (hI.putObj _ hi (by simp [l]) hl rfl) ((World.putObj_heap_other (by simp [D, l])).trans hd)⟩
end Go.Proofs.Ytelobbigpgfobaa

/-
  A range over a function whose iterator may itself be a range over a function: the rounds leave alone whatever the iterator has laid; a round may leave the loop. No condition.
-/
import Derived.Test.YtalonikiljcpfaaDoorCells
import Derived.RangeFuncFrom
import Derived.RangeFuncCalls
namespace Go.Proofs.YtalonikiljcpfaaDoor
open Go.RowKit
set_option linter.unusedVariables false
/-- Whatever lies at B and beyond lies as it lay. -/
structure KeepsAll (B : Nat) (V V' : World) : Prop where
  size : V.heap.size ≤ V'.heap.size
  same : ∀ k, B ≤ k → k < V.heap.size → V'.heap[k]? = V.heap[k]?
theorem KeepsAll.refl (B : Nat) (V : World) : KeepsAll B V V := ⟨Nat.le_refl _, fun _ _ _ => rfl⟩
theorem KeepsAll.trans {B : Nat} {X Y Z : World} (h : KeepsAll B X Y) (k : KeepsAll B Y Z) : KeepsAll B X Z :=
  ⟨Nat.le_trans h.size k.size, fun i hB hi => (k.same i hB (Nat.lt_of_lt_of_le hi h.size)).trans (h.same i hB hi)⟩
theorem KeepsAll.more {B B' : Nat} {X Y : World} (h : KeepsAll B X Y) (hB : B ≤ B') : KeepsAll B' X Y := ⟨h.size, fun i hi => h.same i (Nat.le_trans hB hi)⟩
theorem KeepsAll.at_ {B : Nat} {X Y : World} {k : Nat} {o : Obj} (h : KeepsAll B X Y) (hk : X.heap[k]? = some o) (hB : B ≤ k) : Y.heap[k]? = some o :=
  (h.same k hB (Array.getElem?_eq_some_iff.1 hk).1).trans hk
theorem KeepsAll.putObj (B : Nat) (X : World) (l : Nat) (o : Obj) (hl : l < B) : KeepsAll B X (X.putObj l o) :=
  ⟨by simp [World.putObj], fun k hk _ => World.putObj_heap_other (by omega)⟩
theorem KeepsAll.of_chg {B : Nat} {F : Nat → Prop} {X Y : World} (h : Chg F X Y) (hF : ∀ k, F k → k < B) : KeepsAll B X Y :=
  ⟨h.size, fun k hk hlt => h.block k hlt (fun e => by have := hF k e; omega)⟩
theorem KeepsAll.of_below {B : Nat} {X Y : World} (h : Below X.heap.size X Y) : KeepsAll B X Y := ⟨h.size, fun k _ hlt => h.block k hlt⟩
/-- The iterator's word. -/
def SeqOn {α : Type} (F : Fence) (n : Nat) (P : Program) (gf : Nat) (lb : Array Value) (encs : α → Array Value) (I : List α → World → Prop) (Px : List α → α → Prop) (S Sp : List α → Prop) (w : World) : Prop :=
  ∀ (l : Nat) (J Jx : List α → World → Prop) (W : World), Below w.heap.size w W → (∀ pre V, J pre V → I pre V) → OwnFrom W.heap.size J → OwnFrom W.heap.size Jx →
    (∀ pre x V, J pre V → Px pre x → YieldAt F (n - 1) P l (encs x) V fun e V' => (e = .returned (.bool true) ∧ J (pre ++ [x]) V' ∧ KeepsAll W.heap.size V V') ∨ (e = .returned (.bool false) ∧ Jx (pre ++ [x]) V' ∧ KeepsAll W.heap.size V V')) →
    J [] W → CallsIn F n P gf (#[.func (.yield l) #[] #[]] ++ lb) W fun e W' => (∃ v, e = .returned v) ∧ ((∃ xs, S xs ∧ J xs W') ∨ (∃ pre, Sp pre ∧ Jx pre W'))
/-- How a round may be left. -/
def onPost {α : Type} (B : Nat) (I : List α → World → Prop) (Ix : Code → List α → World → Prop) (xs : List α) (W : World) : Exit → Act → World → Prop
  | .normal, _, W' => KeepsAll B W W' ∧ I xs W'
  | .ret, _, W' => KeepsAll B W W' ∧ Ix .ret xs W'
  | .exit id, _, W' => KeepsAll B W W' ∧ Ix (.exit id) xs W'
  | _, _, _ => False
theorem wpIn_rangeFunc_on {F : Fence} {n : Nat} {P : Program} {α : Type} {g : Operand} {ps : Array Tmp} {assign body : Code} {Q : Exit → Act → World → Prop} {a : Act} {w : World}
    (hro : F.round = none) (h1 : 1 ≤ n) {gf : Nat} {lb : Array Value} (hg : a.eval g = .func (.func gf) #[] lb) (hFg : F.fn gf) (eg : ∀ args w, (callFunc gf args).run P w = .ok (.enter gf args) w)
    {encs : α → Array Value} (I : List α → World → Prop) (Ix : Code → List α → World → Prop) {Px : List α → α → Prop} {S Sp : List α → Prop} (hseq : SeqOn F (n - 1) P gf lb encs I Px S Sp w) (hps : ∀ x, (encs x).size = ps.size)
    (hI : OwnFrom w.heap.size I) (hIx : ∀ c, OwnFrom w.heap.size (Ix c)) (h0 : I [] w) (a₁ : α → Act)
    (hassign : ∀ (l : Nat) (x : α) (W : World) (K : Act → World → Prop), K (a₁ x) W →
      assign.wpIn (F.inRound l) (n - 1 - 1) P (Exit.then K (fun _ _ _ => False)) { tmps := (ps.zip (encs x)).foldl (fun t (p, v) => t.setIfInBounds p v) a.tmps, defers := [] } W)
    (hbody : ∀ (l : Nat) (pre : List α) (x : α) (W : World), I pre W → Px pre x → w.heap.size ≤ W.heap.size → body.wpIn (F.inRound l) (n - 1 - 1) P (onPost w.heap.size I Ix (pre ++ [x]) W) (a₁ x) W)
    (hdone : ∀ (D : Nat) (xs : List α) (W : World), w.heap.size ≤ D → S xs → I xs W → W.heap[D]? = some (.deferred (some [])) → Q .normal { a with defers := { target := .collected D, args := #[] } :: a.defers } W)
    (hstop : ∀ (D : Nat) (c : Code) (pre : List α) (W : World), w.heap.size ≤ D → Sp pre → Ix c pre W → W.heap[D]? = some (.deferred (some [])) → c.wpIn F n P Q { a with defers := { target := .collected D, args := #[] } :: a.defers } W) :
    (Code.rangeFunc g ps assign body).wpIn F n P Q a w := by
  refine wpIn_rangeFunc fun fn hfn => ?_
  rw [hro]
  obtain ⟨D, hD⟩ : ∃ D, D = w.heap.size := ⟨_, rfl⟩
  obtain ⟨l, hl⟩ : ∃ l, l = w.heap.size + 1 := ⟨_, rfl⟩
  obtain ⟨rec, hrec⟩ : ∃ rec : LoopState → Option Code → Loop, rec = fun st pe => { state := st, pending := pe, fn, tmps := a.tmps, params := ps, assign, body, defers := w.heap.size } := ⟨_, rfl⟩
  obtain ⟨V, hV⟩ : ∃ V, V = (w.alloc (.deferred (some []))).alloc (.loop (rec .ready none)) := ⟨_, rfl⟩
  have hsV : V.heap.size = w.heap.size + 2 := by rw [hV]; simp
  have hlV : V.heap[l]? = some (.loop (rec .ready none)) := by
    rw [hV, hl]; have := World.alloc_heap_new (w.alloc (.deferred (some []))) (.loop (rec .ready none)); rwa [World.size_alloc] at this
  have hDV : V.heap[D]? = some (.deferred (some [])) := by
    rw [hV, hD]; exact (Below.heap_alloc _ _ _ (by simp)).trans (World.alloc_heap_new w _)
  have hb : Below w.heap.size w V := by rw [hV]; exact ((Below.refl _ w).alloc (Nat.le_refl _) _).alloc (by simp) _
  have hi1 : I [] V := by rw [hV]; exact hI.alloc _ (hI.alloc _ h0)
  have hrun : (Instr.enterLoop fn a.tmps ps assign body none).run P w = .ok (l, [{ target := .collected D, args := #[] }]) V := by
    rw [hV, hl, hD, hrec]; exact run_enterLoop_outer fn a.tmps ps assign body
  have hDl : D < l := by omega
  have hDw : w.heap.size ≤ D := by omega
  have hlw : w.heap.size ≤ l := by omega
  refine ⟨l, [{ target := .collected D, args := #[] }], V, { target := .fn (.func gf) lb, args := #[.func (.yield l) #[] #[]] }, V, gf, #[.func (.yield l) #[] #[]] ++ lb, V, hrun, ?_, ?_, ?_, fun _ => h1, ?_⟩
  · simp only [resolve, hg]
    simp [go_sem]
  · intro f' hf'
    simp [Target.leads] at hf'
    subst hf'
    exact hFg
  · simp [invoke, go_sem, eg]
  have hnw : ∀ {A : World} {row : Option Nat}, (∀ r, row = some r → V.heap.size ≤ r ∧ ∃ o : Obj, A.heap[r]? = some o ∧ o.isCells = false) → ∀ r, row = some r → w.heap.size ≤ r ∧ ∃ o : Obj, A.heap[r]? = some o ∧ o.isCells = false := fun hr r e => by
    obtain ⟨h1, h2⟩ := hr r e
    exact ⟨by omega, h2⟩
  have hkr : ∀ {A B : World} {row : Option Nat} {k : Nat} {o : Obj}, A.grownBy B row → (∀ r, row = some r → V.heap.size ≤ r ∧ ∃ o : Obj, A.heap[r]? = some o ∧ o.isCells = false) → A.heap[k]? = some o → k < V.heap.size → B.heap[k]? = some o := fun hg' hr hk hkV =>
    (hg'.block _ (Array.getElem?_eq_some_iff.1 hk).1 (fun e => by have := (hr _ e.symm).1; omega)).trans hk
  refine (hseq l (fun pre W => I pre W ∧ W.heap[l]? = some (.loop (rec .ready none)) ∧ W.heap[D]? = some (.deferred (some [])))
    (fun pre W => ∃ c, Ix c pre W ∧ W.heap[l]? = some (.loop (rec .done (some c))) ∧ W.heap[D]? = some (.deferred (some []))) V hb (fun _ _ h => h.1)
    (fun s A B row hs hg' hr => ⟨hI s A B row hs.1 hg' (hnw hr), hkr hg' hr hs.2.1 (by omega), hkr hg' hr hs.2.2 (by omega)⟩)
    (fun s A B row hs hg' hr => by
      obtain ⟨c, hc, h3, h4⟩ := hs
      exact ⟨c, hIx c s A B row hc hg' (hnw hr), hkr hg' hr h3 (by omega), hkr hg' hr h4 (by omega)⟩)
    ?_ ⟨hi1, hlV, hDV⟩).mono ?_
  · rintro pre x W ⟨hi, h3, h4⟩ hpx
    have hlW : l < W.heap.size := (Array.getElem?_eq_some_iff.1 h3).1
    have hy := run_yield (P := P) (args := encs x) h3 (by rw [hrec]; exact hps x)
    rw [hrec] at hy
    refine ⟨fn, _, assign, body, hy, roundIn_of_wpIn hfn (hassign _ x W _ ⟨_, run_beginRound h3 (by rw [hrec]), ?_⟩)⟩
    obtain ⟨busy, hbusy⟩ : ∃ busy : Loop, busy = { rec .ready none with state := .busy } := ⟨_, rfl⟩
    rw [← hbusy]
    have h5 : (W.putObj l (.loop busy)).heap[l]? = some (.loop busy) := World.putObj_heap_same hlW
    have h6 : (W.putObj l (.loop busy)).heap[D]? = some (.deferred (some [])) := (World.putObj_heap_other (by omega)).trans h4
    have k1 : KeepsAll V.heap.size W (W.putObj l (.loop busy)) := KeepsAll.putObj _ _ _ _ (by omega)
    refine wpIn_mono (hbody _ pre x _ (hI.putObj _ hi (by omega) h3 rfl) hpx (by simp [World.putObj]; omega)) ?_
    have fin : ∀ (jump : Option Code) (W3 : World), KeepsAll w.heap.size (W.putObj l (.loop busy)) W3 →
        (Instr.endRound l jump).run P W3 = .ok (.bool jump.isNone) (W3.putObj l (.loop (rec (if jump.isNone then .ready else .done) jump))) ∧ W3.heap[l]? = some (.loop busy) ∧
        (W3.putObj l (.loop (rec (if jump.isNone then .ready else .done) jump))).heap[l]? = some (.loop (rec (if jump.isNone then .ready else .done) jump)) ∧
        (W3.putObj l (.loop (rec (if jump.isNone then .ready else .done) jump))).heap[D]? = some (.deferred (some [])) ∧
        KeepsAll V.heap.size W (W3.putObj l (.loop (rec (if jump.isNone then .ready else .done) jump))) := fun jump W3 hk3 => by
      have h7 := hk3.at_ h5 hlw
      have h8 := hk3.at_ h6 hDw
      have h9 := run_endRound (P := P) jump (by rw [hbusy] at h7; exact h7)
      rw [hrec] at h9 ⊢
      exact ⟨h9, h7, World.putObj_heap_same (Array.getElem?_eq_some_iff.1 h7).1, (World.putObj_heap_other (by omega)).trans h8, (k1.trans (hk3.more (by omega))).trans (KeepsAll.putObj _ _ _ _ (by omega))⟩
    rintro e a3 W3 hp
    cases e with
    | normal =>
      obtain ⟨hk3, hi3⟩ := hp
      obtain ⟨hr, hl3, hl4, hk4, hk5⟩ := fin none W3 hk3
      exact ⟨_, _, hr, .inl ⟨rfl, ⟨hI.putObj _ hi3 (by omega) hl3 rfl, hl4, hk4⟩, hk5⟩⟩
    | ret =>
      obtain ⟨hk3, hi3⟩ := hp
      obtain ⟨hr, hl3, hl4, hk4, hk5⟩ := fin (some .ret) W3 hk3
      exact ⟨_, _, hr, .inr ⟨rfl, ⟨.ret, (hIx _).putObj _ hi3 (by omega) hl3 rfl, hl4, hk4⟩, hk5⟩⟩
    | exit id =>
      obtain ⟨hk3, hi3⟩ := hp
      obtain ⟨hr, hl3, hl4, hk4, hk5⟩ := fin (some (.exit id)) W3 hk3
      exact ⟨_, _, hr, .inr ⟨rfl, ⟨.exit id, (hIx _).putObj _ hi3 (by omega) hl3 rfl, hl4, hk4⟩, hk5⟩⟩
    | _ => exact hp.elim
  · rintro e W2 ⟨⟨v, rfl⟩, (⟨xs, hS, hi, h3, h4⟩ | ⟨pre, hSp, c, hi, h3, h4⟩)⟩
    · exact ⟨none, _, by have := run_endLoop (P := P) h3 (by rw [hrec]; simp); rw [hrec] at this; exact this, hdone _ xs _ hDw hS (hI.putObj _ hi (by omega) h3 rfl) ((World.putObj_heap_other (by omega)).trans h4)⟩
    · exact ⟨some c, _, by have := run_endLoop (P := P) h3 (by rw [hrec]; simp); rw [hrec] at this; exact this, hstop _ c pre _ hDw hSp ((hIx c).putObj _ hi (by omega) h3 rfl) ((World.putObj_heap_other (by omega)).trans h4)⟩
end Go.Proofs.YtalonikiljcpfaaDoor

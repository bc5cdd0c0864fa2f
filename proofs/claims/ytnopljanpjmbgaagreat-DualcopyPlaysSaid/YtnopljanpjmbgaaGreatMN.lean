/-
  A range over a function whose iterator may itself be a range over a function: the rounds leave alone whatever the iterator has laid; a round may leave the loop; A range over a function whose rounds begin with making memory; What the two copies of the superblock are: reading, writing, beginning and advancing them, on a device's state; the walks of dualcopy.check; The walk of dualcopy.copies and of what it yields; The walk of dualcopy.Read.
-/
import Derived.Test.YtnopljanpjmbgaaGreatMA
import Derived.RangeFuncFrom
import Derived.RangeFuncCalls
import Derived.Test.YtnopljanpjmbgaaGreatMI
import Derived.Test.YtnopljanpjmbgaaGreatMM
import Derived.LoopIn
import Derived.Sort.LoopGhostIn
import Derived.Laws.Tables
namespace Go.Proofs.YtnopljanpjmbgaaGreat
open Go.RowKit
set_option linter.unusedVariables false
/-- Whatever lies at B and beyond lies as it lay. -/
structure KeepsAll (B : Nat) (V V' : World) : Prop where
  size : V.heap.size ≤ V'.heap.size
  same : ∀ k, B ≤ k → k < V.heap.size → V'.heap[k]? = V.heap[k]?
theorem KeepsAll.refl (B : Nat) (V : World) : KeepsAll B V V := ⟨Nat.le_refl _, fun _ _ _ => rfl⟩
theorem KeepsAll.trans {B : Nat} {X Y Z : World} (h : KeepsAll B X Y) (k : KeepsAll B Y Z) : KeepsAll B X Z :=
  ⟨Nat.le_trans h.size k.size, fun i hB hi => (k.same i hB (Nat.lt_of_lt_of_le hi h.size)).trans (h.same i hB hi)⟩
theorem KeepsAll.more {B B' : Nat} {X Y : World} (h : KeepsAll B X Y) (hB : B ≤ B') : KeepsAll B' X Y := ⟨h.size, fun i hi => h.same i (Nat.le_trans hB hi)⟩
theorem KeepsAll.at_ {B : Nat} {X Y : World} {k : Nat} {o : Obj} (h : KeepsAll B X Y) (hk : X.heap[k]? = some o) (hB : B ≤ k) : Y.heap[k]? = some o :=
  (h.same k hB (Array.getElem?_eq_some_iff.1 hk).1).trans hk
theorem KeepsAll.putObj (B : Nat) (X : World) (l : Nat) (o : Obj) (hl : l < B) : KeepsAll B X (X.putObj l o) :=
  ⟨by simp [World.putObj], fun k hk _ => World.putObj_heap_other (by omega)⟩
theorem KeepsAll.of_chg {B : Nat} {F : Nat → Prop} {X Y : World} (h : Chg F X Y) (hF : ∀ k, F k → k < B) : KeepsAll B X Y :=
  ⟨h.size, fun k hk hlt => h.block k hlt (fun e => by have := hF k e; omega)⟩
theorem KeepsAll.of_below {B : Nat} {X Y : World} (h : Below X.heap.size X Y) : KeepsAll B X Y := ⟨h.size, fun k _ hlt => h.block k hlt⟩
/-- The iterator's word. -/
def SeqOn {α : Type} (F : Fence) (n : Nat) (P : Program) (gf : Nat) (lb : Array Value) (encs : α → Array Value) (I : List α → World → Prop) (Px : List α → α → Prop) (S Sp : List α → Prop) (w : World) : Prop :=
  ∀ (l : Nat) (J Jx : List α → World → Prop) (W : World), Below w.heap.size w W → (∀ pre V, J pre V → I pre V) → OwnFrom W.heap.size J → OwnFrom W.heap.size Jx →
    (∀ pre x V, J pre V → Px pre x → YieldAt F (n - 1) P l (encs x) V fun e V' => (e = .returned (.bool true) ∧ J (pre ++ [x]) V' ∧ KeepsAll W.heap.size V V') ∨ (e = .returned (.bool false) ∧ Jx (pre ++ [x]) V' ∧ KeepsAll W.heap.size V V')) →
    J [] W → CallsIn F n P gf (#[.func (.yield l) #[] #[]] ++ lb) W fun e W' => (∃ v, e = .returned v) ∧ ((∃ xs, S xs ∧ J xs W') ∨ (∃ pre, Sp pre ∧ Jx pre W'))
/-- How a round may be left. -/
def onPost {α : Type} (B : Nat) (I : List α → World → Prop) (Ix : Code → List α → World → Prop) (xs : List α) (W : World) : Exit → Act → World → Prop
  | .normal, _, W' => KeepsAll B W W' ∧ I xs W'
  | .ret, _, W' => KeepsAll B W W' ∧ Ix .ret xs W'
  | .exit id, _, W' => KeepsAll B W W' ∧ Ix (.exit id) xs W'
  | _, _, _ => False
theorem wpIn_rangeFunc_on {F : Fence} {n : Nat} {P : Program} {α : Type} {g : Operand} {ps : Array Tmp} {assign body : Code} {Q : Exit → Act → World → Prop} {a : Act} {w : World}
    (hro : F.round = none) (h1 : 1 ≤ n) {gf : Nat} {lb : Array Value} (hg : a.eval g = .func (.func gf) #[] lb) (hFg : F.fn gf) (eg : ∀ args w, (callFunc gf args).run P w = .ok (.enter gf args) w)
    {encs : α → Array Value} (I : List α → World → Prop) (Ix : Code → List α → World → Prop) {Px : List α → α → Prop} {S Sp : List α → Prop} (hseq : SeqOn F (n - 1) P gf lb encs I Px S Sp w) (hps : ∀ x, (encs x).size = ps.size)
    (hI : OwnFrom w.heap.size I) (hIx : ∀ c, OwnFrom w.heap.size (Ix c)) (h0 : I [] w) (a₁ : α → Act)
    (hassign : ∀ (l : Nat) (x : α) (W : World) (K : Act → World → Prop), K (a₁ x) W →
      assign.wpIn (F.inRound l) (n - 1 - 1) P (Exit.then K (fun _ _ _ => False)) { tmps := (ps.zip (encs x)).foldl (fun t (p, v) => t.setIfInBounds p v) a.tmps, defers := [] } W)
    (hbody : ∀ (l : Nat) (pre : List α) (x : α) (W : World), I pre W → Px pre x → w.heap.size ≤ W.heap.size → body.wpIn (F.inRound l) (n - 1 - 1) P (onPost w.heap.size I Ix (pre ++ [x]) W) (a₁ x) W)
    (hdone : ∀ (D : Nat) (xs : List α) (W : World), w.heap.size ≤ D → S xs → I xs W → W.heap[D]? = some (.deferred (some [])) → Q .normal { a with defers := { target := .collected D, args := #[] } :: a.defers } W)
    (hstop : ∀ (D : Nat) (c : Code) (pre : List α) (W : World), w.heap.size ≤ D → Sp pre → Ix c pre W → W.heap[D]? = some (.deferred (some [])) → c.wpIn F n P Q { a with defers := { target := .collected D, args := #[] } :: a.defers } W) :
    (Code.rangeFunc g ps assign body).wpIn F n P Q a w := by
  refine wpIn_rangeFunc fun fn hfn => ?_
  rw [hro]
  obtain ⟨D, hD⟩ : ∃ D, D = w.heap.size := ⟨_, rfl⟩
  obtain ⟨l, hl⟩ : ∃ l, l = w.heap.size + 1 := ⟨_, rfl⟩
  obtain ⟨rec, hrec⟩ : ∃ rec : LoopState → Option Code → Loop, rec = fun st pe => { state := st, pending := pe, fn, tmps := a.tmps, params := ps, assign, body, defers := w.heap.size } := ⟨_, rfl⟩
  obtain ⟨V, hV⟩ : ∃ V, V = (w.alloc (.deferred (some []))).alloc (.loop (rec .ready none)) := ⟨_, rfl⟩
  have hsV : V.heap.size = w.heap.size + 2 := by rw [hV]; simp
  have hlV : V.heap[l]? = some (.loop (rec .ready none)) := by
    rw [hV, hl]; have := World.alloc_heap_new (w.alloc (.deferred (some []))) (.loop (rec .ready none)); rwa [World.size_alloc] at this
  have hDV : V.heap[D]? = some (.deferred (some [])) := by
    rw [hV, hD]; exact (Below.heap_alloc _ _ _ (by simp)).trans (World.alloc_heap_new w _)
  have hb : Below w.heap.size w V := by rw [hV]; exact ((Below.refl _ w).alloc (Nat.le_refl _) _).alloc (by simp) _
  have hi1 : I [] V := by rw [hV]; exact hI.alloc _ (hI.alloc _ h0)
  have hrun : (Instr.enterLoop fn a.tmps ps assign body none).run P w = .ok (l, [{ target := .collected D, args := #[] }]) V := by
    rw [hV, hl, hD, hrec]; exact run_enterLoop_outer fn a.tmps ps assign body
  have hDl : D < l := by omega
  have hDw : w.heap.size ≤ D := by omega
  have hlw : w.heap.size ≤ l := by omega
  refine ⟨l, [{ target := .collected D, args := #[] }], V, { target := .fn (.func gf) lb, args := #[.func (.yield l) #[] #[]] }, V, gf, #[.func (.yield l) #[] #[]] ++ lb, V, hrun, ?_, ?_, ?_, fun _ => h1, ?_⟩
  · simp only [resolve, hg]
    simp [go_sem]
  · intro f' hf'
    simp [Target.leads] at hf'
    subst hf'
    exact hFg
  · simp [invoke, go_sem, eg]
  have hnw : ∀ {A : World} {row : Option Nat}, (∀ r, row = some r → V.heap.size ≤ r ∧ ∃ o : Obj, A.heap[r]? = some o ∧ o.isCells = false) → ∀ r, row = some r → w.heap.size ≤ r ∧ ∃ o : Obj, A.heap[r]? = some o ∧ o.isCells = false := fun hr r e => by
    obtain ⟨h1, h2⟩ := hr r e
    exact ⟨by omega, h2⟩
  have hkr : ∀ {A B : World} {row : Option Nat} {k : Nat} {o : Obj}, A.grownBy B row → (∀ r, row = some r → V.heap.size ≤ r ∧ ∃ o : Obj, A.heap[r]? = some o ∧ o.isCells = false) → A.heap[k]? = some o → k < V.heap.size → B.heap[k]? = some o := fun hg' hr hk hkV =>
    (hg'.block _ (Array.getElem?_eq_some_iff.1 hk).1 (fun e => by have := (hr _ e.symm).1; omega)).trans hk
  refine (hseq l (fun pre W => I pre W ∧ W.heap[l]? = some (.loop (rec .ready none)) ∧ W.heap[D]? = some (.deferred (some [])))
    (fun pre W => ∃ c, Ix c pre W ∧ W.heap[l]? = some (.loop (rec .done (some c))) ∧ W.heap[D]? = some (.deferred (some []))) V hb (fun _ _ h => h.1)
    (fun s A B row hs hg' hr => ⟨hI s A B row hs.1 hg' (hnw hr), hkr hg' hr hs.2.1 (by omega), hkr hg' hr hs.2.2 (by omega)⟩)
    (fun s A B row hs hg' hr => by
      obtain ⟨c, hc, h3, h4⟩ := hs
      exact ⟨c, hIx c s A B row hc hg' (hnw hr), hkr hg' hr h3 (by omega), hkr hg' hr h4 (by omega)⟩)
    ?_ ⟨hi1, hlV, hDV⟩).mono ?_
  · rintro pre x W ⟨hi, h3, h4⟩ hpx
    have hlW : l < W.heap.size := (Array.getElem?_eq_some_iff.1 h3).1
    have hy := run_yield (P := P) (args := encs x) h3 (by rw [hrec]; exact hps x)
    rw [hrec] at hy
    refine ⟨fn, _, assign, body, hy, roundIn_of_wpIn hfn (hassign _ x W _ ⟨_, run_beginRound h3 (by rw [hrec]), ?_⟩)⟩
    obtain ⟨busy, hbusy⟩ : ∃ busy : Loop, busy = { rec .ready none with state := .busy } := ⟨_, rfl⟩
    rw [← hbusy]
    have h5 : (W.putObj l (.loop busy)).heap[l]? = some (.loop busy) := World.putObj_heap_same hlW
    have h6 : (W.putObj l (.loop busy)).heap[D]? = some (.deferred (some [])) := (World.putObj_heap_other (by omega)).trans h4
    have k1 : KeepsAll V.heap.size W (W.putObj l (.loop busy)) := KeepsAll.putObj _ _ _ _ (by omega)
    refine wpIn_mono (hbody _ pre x _ (hI.putObj _ hi (by omega) h3 rfl) hpx (by simp [World.putObj]; omega)) ?_
    have fin : ∀ (jump : Option Code) (W3 : World), KeepsAll w.heap.size (W.putObj l (.loop busy)) W3 →
        (Instr.endRound l jump).run P W3 = .ok (.bool jump.isNone) (W3.putObj l (.loop (rec (if jump.isNone then .ready else .done) jump))) ∧ W3.heap[l]? = some (.loop busy) ∧
        (W3.putObj l (.loop (rec (if jump.isNone then .ready else .done) jump))).heap[l]? = some (.loop (rec (if jump.isNone then .ready else .done) jump)) ∧
        (W3.putObj l (.loop (rec (if jump.isNone then .ready else .done) jump))).heap[D]? = some (.deferred (some [])) ∧
        KeepsAll V.heap.size W (W3.putObj l (.loop (rec (if jump.isNone then .ready else .done) jump))) := fun jump W3 hk3 => by
      have h7 := hk3.at_ h5 hlw
      have h8 := hk3.at_ h6 hDw
      have h9 := run_endRound (P := P) jump (by rw [hbusy] at h7; exact h7)
      rw [hrec] at h9 ⊢
      exact ⟨h9, h7, World.putObj_heap_same (Array.getElem?_eq_some_iff.1 h7).1, (World.putObj_heap_other (by omega)).trans h8, (k1.trans (hk3.more (by omega))).trans (KeepsAll.putObj _ _ _ _ (by omega))⟩
    rintro e a3 W3 hp
    cases e with
    | normal =>
      obtain ⟨hk3, hi3⟩ := hp
      obtain ⟨hr, hl3, hl4, hk4, hk5⟩ := fin none W3 hk3
      exact ⟨_, _, hr, .inl ⟨rfl, ⟨hI.putObj _ hi3 (by omega) hl3 rfl, hl4, hk4⟩, hk5⟩⟩
    | ret =>
      obtain ⟨hk3, hi3⟩ := hp
      obtain ⟨hr, hl3, hl4, hk4, hk5⟩ := fin (some .ret) W3 hk3
      exact ⟨_, _, hr, .inr ⟨rfl, ⟨.ret, (hIx _).putObj _ hi3 (by omega) hl3 rfl, hl4, hk4⟩, hk5⟩⟩
    | exit id =>
      obtain ⟨hk3, hi3⟩ := hp
      obtain ⟨hr, hl3, hl4, hk4, hk5⟩ := fin (some (.exit id)) W3 hk3
      exact ⟨_, _, hr, .inr ⟨rfl, ⟨.exit id, (hIx _).putObj _ hi3 (by omega) hl3 rfl, hl4, hk4⟩, hk5⟩⟩
    | _ => exact hp.elim
  · rintro e W2 ⟨⟨v, rfl⟩, (⟨xs, hS, hi, h3, h4⟩ | ⟨pre, hSp, c, hi, h3, h4⟩)⟩
    · exact ⟨none, _, by have := run_endLoop (P := P) h3 (by rw [hrec]; simp); rw [hrec] at this; exact this, hdone _ xs _ hDw hS (hI.putObj _ hi (by omega) h3 rfl) ((World.putObj_heap_other (by omega)).trans h4)⟩
    · exact ⟨some c, _, by have := run_endLoop (P := P) h3 (by rw [hrec]; simp); rw [hrec] at this; exact this, hstop _ c pre _ hDw hSp ((hIx c).putObj _ hi (by omega) h3 rfl) ((World.putObj_heap_other (by omega)).trans h4)⟩
end Go.Proofs.YtnopljanpjmbgaaGreat
namespace Go.Proofs.YtnopljanpjmbgaaGreat
open Go.RowKit
set_option linter.unusedVariables false
/-- The same, where the round's first statements may make memory: a box, whose number the round's frame bears. -/
theorem wpIn_rangeFunc_on2 {F : Fence} {n : Nat} {P : Program} {α : Type} {g : Operand} {ps : Array Tmp} {assign body : Code} {Q : Exit → Act → World → Prop} {a : Act} {w : World}
    (hro : F.round = none) (h1 : 1 ≤ n) {gf : Nat} {lb : Array Value} (hg : a.eval g = .func (.func gf) #[] lb) (hFg : F.fn gf) (eg : ∀ args w, (callFunc gf args).run P w = .ok (.enter gf args) w)
    {encs : α → Array Value} (I : List α → World → Prop) (I2 : List α → α → Nat → World → Prop) (Ix : Code → List α → World → Prop) {Px : List α → α → Prop} {S Sp : List α → Prop} (hseq : SeqOn F (n - 1) P gf lb encs I Px S Sp w) (hps : ∀ x, (encs x).size = ps.size)
    (hI : OwnFrom w.heap.size I) (hI2 : OwnFrom w.heap.size (fun (p : List α × α × Nat) W => I2 p.1 p.2.1 p.2.2 W)) (hIx : ∀ c, OwnFrom w.heap.size (Ix c)) (h0 : I [] w) (a₁ : α → Nat → Act)
    (hassign : ∀ (l : Nat) (pre : List α) (x : α) (W : World), I pre W → Px pre x → w.heap.size ≤ W.heap.size → ∀ (K : Act → World → Prop), (∀ b W', KeepsAll w.heap.size W W' → I2 pre x b W' → K (a₁ x b) W') →
      assign.wpIn (F.inRound l) (n - 1 - 1) P (Exit.then K (fun _ _ _ => False)) { tmps := (ps.zip (encs x)).foldl (fun t (p, v) => t.setIfInBounds p v) a.tmps, defers := [] } W)
    (hbody : ∀ (l : Nat) (pre : List α) (x : α) (b : Nat) (W : World), I2 pre x b W → Px pre x → w.heap.size ≤ W.heap.size → body.wpIn (F.inRound l) (n - 1 - 1) P (onPost w.heap.size I Ix (pre ++ [x]) W) (a₁ x b) W)
    (hdone : ∀ (D : Nat) (xs : List α) (W : World), w.heap.size ≤ D → S xs → I xs W → W.heap[D]? = some (.deferred (some [])) → Q .normal { a with defers := { target := .collected D, args := #[] } :: a.defers } W)
    (hstop : ∀ (D : Nat) (c : Code) (pre : List α) (W : World), w.heap.size ≤ D → Sp pre → Ix c pre W → W.heap[D]? = some (.deferred (some [])) → c.wpIn F n P Q { a with defers := { target := .collected D, args := #[] } :: a.defers } W) :
    (Code.rangeFunc g ps assign body).wpIn F n P Q a w := by
  refine wpIn_rangeFunc fun fn hfn => ?_
  rw [hro]
  obtain ⟨D, hD⟩ : ∃ D, D = w.heap.size := ⟨_, rfl⟩
  obtain ⟨l, hl⟩ : ∃ l, l = w.heap.size + 1 := ⟨_, rfl⟩
  obtain ⟨rec, hrec⟩ : ∃ rec : LoopState → Option Code → Loop, rec = fun st pe => { state := st, pending := pe, fn, tmps := a.tmps, params := ps, assign, body, defers := w.heap.size } := ⟨_, rfl⟩
  obtain ⟨V, hV⟩ : ∃ V, V = (w.alloc (.deferred (some []))).alloc (.loop (rec .ready none)) := ⟨_, rfl⟩
  have hsV : V.heap.size = w.heap.size + 2 := by rw [hV]; simp
  have hlV : V.heap[l]? = some (.loop (rec .ready none)) := by
    rw [hV, hl]; have := World.alloc_heap_new (w.alloc (.deferred (some []))) (.loop (rec .ready none)); rwa [World.size_alloc] at this
  have hDV : V.heap[D]? = some (.deferred (some [])) := by
    rw [hV, hD]; exact (Below.heap_alloc _ _ _ (by simp)).trans (World.alloc_heap_new w _)
  have hb : Below w.heap.size w V := by rw [hV]; exact ((Below.refl _ w).alloc (Nat.le_refl _) _).alloc (by simp) _
  have hi1 : I [] V := by rw [hV]; exact hI.alloc _ (hI.alloc _ h0)
  have hrun : (Instr.enterLoop fn a.tmps ps assign body none).run P w = .ok (l, [{ target := .collected D, args := #[] }]) V := by
    rw [hV, hl, hD, hrec]; exact run_enterLoop_outer fn a.tmps ps assign body
  have hDl : D < l := by omega
  have hDw : w.heap.size ≤ D := by omega
  have hlw : w.heap.size ≤ l := by omega
  refine ⟨l, [{ target := .collected D, args := #[] }], V, { target := .fn (.func gf) lb, args := #[.func (.yield l) #[] #[]] }, V, gf, #[.func (.yield l) #[] #[]] ++ lb, V, hrun, ?_, ?_, ?_, fun _ => h1, ?_⟩
  · simp only [resolve, hg]
    simp [go_sem]
  · intro f' hf'
    simp [Target.leads] at hf'
    subst hf'
    exact hFg
  · simp [invoke, go_sem, eg]
  have hnw : ∀ {A : World} {row : Option Nat}, (∀ r, row = some r → V.heap.size ≤ r ∧ ∃ o : Obj, A.heap[r]? = some o ∧ o.isCells = false) → ∀ r, row = some r → w.heap.size ≤ r ∧ ∃ o : Obj, A.heap[r]? = some o ∧ o.isCells = false := fun hr r e => by
    obtain ⟨h1, h2⟩ := hr r e
    exact ⟨by omega, h2⟩
  have hkr : ∀ {A B : World} {row : Option Nat} {k : Nat} {o : Obj}, A.grownBy B row → (∀ r, row = some r → V.heap.size ≤ r ∧ ∃ o : Obj, A.heap[r]? = some o ∧ o.isCells = false) → A.heap[k]? = some o → k < V.heap.size → B.heap[k]? = some o := fun hg' hr hk hkV =>
    (hg'.block _ (Array.getElem?_eq_some_iff.1 hk).1 (fun e => by have := (hr _ e.symm).1; omega)).trans hk
  refine (hseq l (fun pre W => I pre W ∧ W.heap[l]? = some (.loop (rec .ready none)) ∧ W.heap[D]? = some (.deferred (some [])))
    (fun pre W => ∃ c, Ix c pre W ∧ W.heap[l]? = some (.loop (rec .done (some c))) ∧ W.heap[D]? = some (.deferred (some []))) V hb (fun _ _ h => h.1)
    (fun s A B row hs hg' hr => ⟨hI s A B row hs.1 hg' (hnw hr), hkr hg' hr hs.2.1 (by omega), hkr hg' hr hs.2.2 (by omega)⟩)
    (fun s A B row hs hg' hr => by
      obtain ⟨c, hc, h3, h4⟩ := hs
      exact ⟨c, hIx c s A B row hc hg' (hnw hr), hkr hg' hr h3 (by omega), hkr hg' hr h4 (by omega)⟩)
    ?_ ⟨hi1, hlV, hDV⟩).mono ?_
  · rintro pre x W ⟨hi, h3, h4⟩ hpx
    have hlW : l < W.heap.size := (Array.getElem?_eq_some_iff.1 h3).1
    have hy := run_yield (P := P) (args := encs x) h3 (by rw [hrec]; exact hps x)
    rw [hrec] at hy
    have hwW : w.heap.size ≤ W.heap.size := by omega
    refine ⟨fn, _, assign, body, hy, roundIn_of_wpIn hfn (hassign _ pre x W hi hpx hwW _ (fun b0 WA hkA hi2 => ⟨_, run_beginRound (hkA.at_ h3 hlw) (by rw [hrec]), ?_⟩))⟩
    have h3 := hkA.at_ h3 hlw
    have h4 := hkA.at_ h4 hDw
    have hlWA : l < WA.heap.size := (Array.getElem?_eq_some_iff.1 h3).1
    obtain ⟨busy, hbusy⟩ : ∃ busy : Loop, busy = { rec .ready none with state := .busy } := ⟨_, rfl⟩
    rw [← hbusy]
    have h5 : (WA.putObj l (.loop busy)).heap[l]? = some (.loop busy) := World.putObj_heap_same hlWA
    have h6 : (WA.putObj l (.loop busy)).heap[D]? = some (.deferred (some [])) := (World.putObj_heap_other (by omega)).trans h4
    have k1 : KeepsAll V.heap.size W (WA.putObj l (.loop busy)) := (hkA.more (by omega)).trans (KeepsAll.putObj _ _ _ _ (by omega))
    refine wpIn_mono (hbody _ pre x b0 _ (hI2.putObj (s := (pre, x, b0)) _ hi2 (by omega) h3 rfl) hpx (by simp [World.putObj]; omega)) ?_
    have fin : ∀ (jump : Option Code) (W3 : World), KeepsAll w.heap.size (WA.putObj l (.loop busy)) W3 →
        (Instr.endRound l jump).run P W3 = .ok (.bool jump.isNone) (W3.putObj l (.loop (rec (if jump.isNone then .ready else .done) jump))) ∧ W3.heap[l]? = some (.loop busy) ∧
        (W3.putObj l (.loop (rec (if jump.isNone then .ready else .done) jump))).heap[l]? = some (.loop (rec (if jump.isNone then .ready else .done) jump)) ∧
        (W3.putObj l (.loop (rec (if jump.isNone then .ready else .done) jump))).heap[D]? = some (.deferred (some [])) ∧
        KeepsAll V.heap.size W (W3.putObj l (.loop (rec (if jump.isNone then .ready else .done) jump))) := fun jump W3 hk3 => by
      have h7 := hk3.at_ h5 hlw
      have h8 := hk3.at_ h6 hDw
      have h9 := run_endRound (P := P) jump (by rw [hbusy] at h7; exact h7)
      rw [hrec] at h9 ⊢
      exact ⟨h9, h7, World.putObj_heap_same (Array.getElem?_eq_some_iff.1 h7).1, (World.putObj_heap_other (by omega)).trans h8, (k1.trans (hk3.more (by omega))).trans (KeepsAll.putObj _ _ _ _ (by omega))⟩
    rintro e a3 W3 hp
    cases e with
    | normal =>
      obtain ⟨hk3, hi3⟩ := hp
      obtain ⟨hr, hl3, hl4, hk4, hk5⟩ := fin none W3 hk3
      exact ⟨_, _, hr, .inl ⟨rfl, ⟨hI.putObj _ hi3 (by omega) hl3 rfl, hl4, hk4⟩, hk5⟩⟩
    | ret =>
      obtain ⟨hk3, hi3⟩ := hp
      obtain ⟨hr, hl3, hl4, hk4, hk5⟩ := fin (some .ret) W3 hk3
      exact ⟨_, _, hr, .inr ⟨rfl, ⟨.ret, (hIx _).putObj _ hi3 (by omega) hl3 rfl, hl4, hk4⟩, hk5⟩⟩
    | exit id =>
      obtain ⟨hk3, hi3⟩ := hp
      obtain ⟨hr, hl3, hl4, hk4, hk5⟩ := fin (some (.exit id)) W3 hk3
      exact ⟨_, _, hr, .inr ⟨rfl, ⟨.exit id, (hIx _).putObj _ hi3 (by omega) hl3 rfl, hl4, hk4⟩, hk5⟩⟩
    | _ => exact hp.elim
  · rintro e W2 ⟨⟨v, rfl⟩, (⟨xs, hS, hi, h3, h4⟩ | ⟨pre, hSp, c, hi, h3, h4⟩)⟩
    · exact ⟨none, _, by have := run_endLoop (P := P) h3 (by rw [hrec]; simp); rw [hrec] at this; exact this, hdone _ xs _ hDw hS (hI.putObj _ hi (by omega) h3 rfl) ((World.putObj_heap_other (by omega)).trans h4)⟩
    · exact ⟨some c, _, by have := run_endLoop (P := P) h3 (by rw [hrec]; simp); rw [hrec] at this; exact this, hstop _ c pre _ hDw hSp ((hIx c).putObj _ hi (by omega) h3 rfl) ((World.putObj_heap_other (by omega)).trans h4)⟩
end Go.Proofs.YtnopljanpjmbgaaGreat
namespace Go.Proofs.YtnopljanpjmbgaaGreat
open Go.RowKit Drum
set_option linter.unusedVariables false
attribute [local go_sem] Oper.semAt_some
theorem wpListIn_store_row {F : Fence} {n : Nat} {P : Program} {ops : Array Oper} {rest : List Oper} {o : Oper} {a : Act} {w : World} {Q : Exit → Act → World → Prop} (hgd : o.guard = none) (ty : TypeId) (x y : Operand) (ho : o.op = .store ty x y)
    (g : Nat) (cells : Array Value) (hx : a.eval x = .pointer (some ⟨g, 0, none⟩)) (hy : a.eval y = .agg cells)
    (t : TypeId) (old : Array Value) (hg : w.heap[g]? = some (.cells old t (0, 0))) (hi : (P.info? ty).map (·.size) = some cells.size)
    (hold : old.size = cells.size) (h1 : cells.all (·.oneCell') = true)
    (h : wpListIn F n P ops Q rest (a.put o.dst undef) (w.setRow g cells)) : wpListIn F n P ops Q (o :: rest) a w := by
  refine wpListIn_plain hgd fun K hK' => ?_
  unfold Oper.wpIn
  refine ⟨?_, ?_⟩
  · simp [Oper.about, ho]
  · rw [Oper.semAt_plain F _ _ (by rw [ho]; intro c hc'; cases hc')]
    unfold execOp
    simp only [ho, hx, hy, Instr.storeAt, Instr.sureAddr, Sem.run_bind, Sem.run_pure, Result.andThen_ok, run_storeVar_row w g t ty old cells hg hi hold h1]
    exact hK' _ _ h
theorem wpListIn_load_row {F : Fence} {n : Nat} {P : Program} {ops : Array Oper} {rest : List Oper} {o : Oper} {a : Act} {w : World} {Q : Exit → Act → World → Prop} (hgd : o.guard = none) (ty : TypeId) (x : Operand) (ho : o.op = .load ty x)
    (g : Nat) (hx : a.eval x = .pointer (some ⟨g, 0, none⟩)) (t : TypeId) (cs : Array Value) (fr : Nat × Nat) (d : TypeDesc) (hg : w.heap[g]? = some (.cells cs t fr))
    (hu : P.underlying ty = some d) (hd : (match d with | .struct _ | .array _ _ => true | _ => false) = true) (hi : (P.info? ty).map (·.size) = some cs.size)
    (h : wpListIn F n P ops Q rest (a.put o.dst (.agg cs)) w) : wpListIn F n P ops Q (o :: rest) a w := by
  refine wpListIn_plain hgd fun K hK' => ?_
  unfold Oper.wpIn
  refine ⟨?_, ?_⟩
  · simp [Oper.about, ho]
  · rw [Oper.semAt_plain F _ _ (by rw [ho]; intro c hc'; cases hc')]
    unfold execOp
    simp only [ho, hx, Instr.loadAt, Instr.sureAddr, Sem.run_bind, Sem.run_pure, Result.andThen_ok, run_loadVar_row w g t ty cs fr d hg hu hd hi]
    exact hK' _ _ h
/-- The bytes of a copy, and what they say. -/
def cpL (X : DevD) (i : Nat) : List (BitVec 8) := (X.D (X.n + i)).bytes
noncomputable def cpD (X : DevD) (i : Nat) : Int × Bk := decOf (cpL X i)
/-- The valid ones of the first copies. -/
noncomputable def validTo (X : DevD) : Nat → List (Nat × Bk)
  | 0 => []
  | i + 1 => if (cpD X i).1 = 0 then validTo X i ++ [(i, (cpD X i).2)] else validTo X i
/-- The newest of some copies. -/
def newestOf (l : List (Nat × Bk)) : Nat × Bk := l.foldl (fun a x => if a.2.epoch < x.2.epoch then x else a) (0, bk0)
theorem newestOf_snoc (l : List (Nat × Bk)) (x : Nat × Bk) : newestOf (l ++ [x]) = if (newestOf l).2.epoch < x.2.epoch then x else newestOf l := by
  unfold newestOf
  rw [List.foldl_append]
  rfl
noncomputable def readX (X : DevD) : Int × Nat × Bk :=
  if X.down = true then (13, 0, bk0) else if (newestOf (validTo X 2)).2.epoch = 0 then (5, 0, bk0) else (0, (newestOf (validTo X 2)).1, (newestOf (validTo X 2)).2)
/-- The slot that is written. -/
def wslot (X : DevD) (b : Bk) : Nat := X.n + (b.epoch % 2).toNat
/-- The device behind so many steps of a writing, and what a step answers. -/
def wX (X : DevD) (b : Bk) : Nat → DevD
  | 0 => X
  | 1 => EraseVX X (wslot X b : Int)
  | 2 => appVX (EraseVX X (wslot X b : Int)) (wslot X b : Int) (encOf b)
  | _ => SyncVX (appVX (EraseVX X (wslot X b : Int)) (wslot X b : Int) (encOf b)) (wslot X b : Int)
def wE (X : DevD) (b : Bk) : Nat → Int
  | 0 => oneVE X (wslot X b : Int)
  | 1 => appVE (EraseVX X (wslot X b : Int)) (wslot X b : Int) (encOf b)
  | _ => oneVE (appVX (EraseVX X (wslot X b : Int)) (wslot X b : Int) (encOf b)) (wslot X b : Int)
def writeX (X : DevD) (b : Bk) : Int × DevD :=
  if ¬ b.ok then (2, X) else if X.down = true then (13, X) else if wE X b 0 ≠ 0 then (wE X b 0, wX X b 1) else if wE X b 1 ≠ 0 then (wE X b 1, wX X b 2) else (wE X b 2, wX X b 3)
noncomputable def beginX (X : DevD) (c : Cf) : Int × DevD :=
  if ¬ (c.ok ∧ c.slots = (X.n : Int)) then (2, X) else if X.down = true then (13, X) else if 0 < (cpL X 0).length ∨ 0 < (cpL X 1).length then (6, X) else
    if (writeX X ⟨1, c⟩).1 ≠ 0 then writeX X ⟨1, c⟩ else writeX (writeX X ⟨1, c⟩).2 ⟨2, c⟩
noncomputable def advX (X : DevD) (p : Int) : Int × Bk × DevD :=
  if ¬ (p = 1 ∨ p = 2) then (2, bk0, X) else if X.down = true then (13, bk0, X) else if (readX X).1 ≠ 0 then ((readX X).1, bk0, X) else
    if (nextOf (readX X).2.2 p).1 ≠ 0 then ((nextOf (readX X).2.2 p).1, bk0, X) else
      if (writeX X (nextOf (readX X).2.2 p).2).1 ≠ 0 then ((writeX X (nextOf (readX X).2.2 p).2).1, bk0, (writeX X (nextOf (readX X).2.2 p).2).2) else (0, (nextOf (readX X).2.2 p).2, (writeX X (nextOf (readX X).2.2 p).2).2)
/-- What check answers. -/
def chkD (X : DevD) (al : Bool) : Int := if al = true then (if X.down = true then 13 else 0) else 2
section
variable {w w' : World} {v : Nat} {L : DLay} {X : DevD}
set_option maxHeartbeats 400000 in
theorem dcheck_any (h : IsDev w v L X) (al : Bool) :
    Calls Tryz.prog 39 #[.pointer (some ⟨v, 0, none⟩), .bool al] w fun e w' => e = .returned (.int .i64 (chkD X al)) ∧ w = w' := by
  have HS := Lib.hid (dev_slots h)
  have HD := Lib.hid (dev_down h)
  have hn := h.ok.n2
  have hz : ((X.n : Int) == 0) = false := by simp; omega
  unfold chkD
  clear h
  cases al with
  | false =>
    go_enter Tryz.func39, Tryz.ntmps39
    go_wp2_with fail
    refine HS.out.mono ?_
    rintro e w1 ⟨rfl, rfl⟩
    go_wp2_with fail
    go_ret
    exact ⟨rfl, rfl⟩
  | true =>
    cases hd : X.down with
    | false =>
      rw [hd] at HD
      clear hd
      go_enter Tryz.func39, Tryz.ntmps39
      go_wp2_with fail
      refine HS.out.mono ?_
      rintro e w1 ⟨rfl, rfl⟩
      go_wp2_with fail
      refine HD.out.mono ?_
      rintro e w1 ⟨rfl, rfl⟩
      go_wp2_with fail
      go_ret
      exact ⟨rfl, rfl⟩
    | true =>
      rw [hd] at HD
      clear hd
      go_enter Tryz.func39, Tryz.ntmps39
      go_wp2_with fail
      refine HS.out.mono ?_
      rintro e w1 ⟨rfl, rfl⟩
      go_wp2_with fail
      refine HD.out.mono ?_
      rintro e w1 ⟨rfl, rfl⟩
      go_wp2_with fail
      go_ret
      exact ⟨rfl, rfl⟩
/-- A copy's length, and its bytes. -/
theorem cp_chk (hup : X.down = false) (i : Nat) (hi : i < 2) : chkE X ((X.n + i : Nat) : Int) = 0 := by
  unfold chkE
  rw [hup, if_neg (by simp), if_pos]
  unfold inRange
  omega
theorem cp_len (h : IsDev w v L X) (hup : X.down = false) (i : Nat) (hi : i < 2) (z : Int) (hz : z = ((X.n + i : Nat) : Int)) :
    Calls Tryz.prog 43 #[.pointer (some ⟨v, 0, none⟩), .int .i64 z] w fun e w' => e = .returned (.tuple #[.int .i64 ((cpL X i).length : Int), .int .i64 0]) ∧ Below w.heap.size w w' := by
  subst hz
  have := dev_len h ((X.n + i : Nat) : Int)
  unfold lenV at this
  rw [cp_chk hup i hi, if_pos rfl, Int.toNat_natCast] at this
  exact this
theorem cp_read (h : IsDev w v L X) (hup : X.down = false) (i : Nat) (hi : i < 2) (z : Int) (hz : z = ((X.n + i : Nat) : Int)) :
    Calls Tryz.prog 9 #[.pointer (some ⟨v, 0, none⟩), .int .i64 z, .int .i64 0, .int .i64 ((cpL X i).length : Int)] w fun e w' => ∃ A c, e = .returned (.tuple #[.slice A (cpL X i).length c, .int .i64 0]) ∧ (cpL X i).length ≤ c ∧ c ≤ maxLen ∧ Reads w' w'.heap.size 1 A (cpL X i).length (u8s (cpL X i)) ∧ Below w.heap.size w w' := by
  subst hz
  refine (dev_read h ((X.n + i : Nat) : Int) 0 ((cpL X i).length : Int)).mono ?_
  rintro e w' ⟨u, r, rfl, hq, hb⟩
  obtain ⟨rfl, ho⟩ := read_ok (s := X.n + i) (a := 0) (b := (cpL X i).length) hq (cp_chk hup i hi) (by unfold cpL; omega)
  have e1 : ((X.D (X.n + i)).bytes.drop 0).take (cpL X i).length = cpL X i := by unfold cpL; rw [List.drop_zero, List.take_length]
  rw [e1] at ho
  obtain ⟨A, c, rfl, h1, h2, h3⟩ := own_slice ho
  exact ⟨A, c, rfl, h1, h2, h3, hb⟩
end
end Go.Proofs.YtnopljanpjmbgaaGreat
namespace Go.Proofs.YtnopljanpjmbgaaGreat
open Go.RowKit Drum
set_option linter.unusedVariables false
attribute [local go_sem] Oper.semAt_some
theorem grown_below {w w' : World} (h : Below w.heap.size w w') : w.grownBy w' none := ⟨h.os, h.tape, h.output, h.size, fun k hk _ => h.block k hk⟩
theorem of_below {β : Type} {B : Nat} {I : β → World → Prop} (h : OwnFrom B I) {s : β} {W W' : World} (hs : I s W) (hb : Below W.heap.size W W') : I s W' := h s W W' none hs (grown_below hb) (fun r e => by cases e)
/-- What is yielded: a copy's number, and its superblock. -/
def encC (x : Nat × Bk) : Array Value := #[.int .i64 (x.1 : Int), .agg #[.int .i64 x.2.epoch, .int .i64 x.2.conf.slots, .int .i64 x.2.conf.size, .int .i64 x.2.conf.reserve, .int .i64 x.2.conf.work, .int .i64 x.2.conf.key, .int .i64 x.2.conf.value, .int .i64 x.2.conf.policy]]
set_option maxHeartbeats 400000 in
theorem copies_any (p0 : Option Addr) (w : World) :
    Calls Tryz.prog 40 #[.pointer p0] w fun e w' => e = .returned (.func (.func 90) #[] #[.pointer (some ⟨w.heap.size, 0, none⟩)]) ∧ w' = w.alloc (.cells #[.pointer p0] 24) := by
  go_enter Tryz.func40, Tryz.ntmps40
  go_wp2_with fail
  go_ret
  exact ⟨rfl, rfl⟩
set_option maxRecDepth 100000 in
set_option maxHeartbeats 8000000 in
theorem copies1_on (n : Nat) (hn : 1 ≤ n) (B1 v : Nat) (L : DLay) (X : DevD) (hup : X.down = false) (I : List (Nat × Bk) → World → Prop) (w : World) (hI : ∀ pre V, I pre V → V.cell? ⟨B1, 0, none⟩ = some (.pointer (some ⟨v, 0, none⟩)) ∧ IsDev V v L X) :
    SeqOn Fence.wide n Tryz.prog 90 #[.pointer (some ⟨B1, 0, none⟩)] encC I (fun pre x => pre = validTo X x.1 ∧ cpD X x.1 = (0, x.2) ∧ x.1 < 2) (fun xs => xs = validTo X 2) (fun _ => True) w := by
  rintro l J Jx W hbW hJI hOJ hOX hY h0
  have HJI := Lib.hid hJI
  have HOJ := Lib.hid hOJ
  have HI := Lib.hid hI
  have HY := Lib.hid hY
  have HJ0 := Lib.hid h0
  clear hJI hOJ hOX hI hY h0
  refine callsIn_of_wp Tryz.func90 rfl trivial ?_ rfl
  simp only [Tryz.ntmps90, List.size_toArray, List.length_cons, List.length_nil, Nat.reduceAdd, Nat.reduceSub, Array.replicate_succ, Array.replicate_zero, List.push_toArray, List.append_toArray, List.nil_append, List.cons_append]
  gi_wp2_with fail
  gi_loopg [11] 2 (fun q v11 wr => ∃ i : Nat, i + q = 2 ∧ v11 = .int .i64 (i : Int) ∧ J (validTo X i) wr)
  case atStart => exact ⟨0, by omega, rfl, HJ0.out⟩
  case round =>
    obtain ⟨i, hi, rfl, hJ⟩ := hrel
    have HK := Lib.hid hi
    have hi2 : i ≤ 2 := by omega
    have HJ := Lib.hid hJ
    clear hi hJ HJ0
    by_cases hlt : i < 2
    · obtain ⟨c1, hd⟩ := HI.out _ _ (HJI.out _ _ HJ.out)
      have HSL := Lib.hid (dev_slots hd)
      have HLN := Lib.hid (cp_len hd hup i hlt ((X.n : Int) + (i : Int)) (by omega))
      have hn32 := hd.ok.n32
      obtain ⟨er, b, hcp⟩ : ∃ er b, cpD X i = (er, b) := ⟨_, _, rfl⟩
      obtain ⟨m, hm⟩ : ∃ m, (cpL X i).length = m := ⟨_, rfl⟩
      rw [hm] at HLN
      have HM := Lib.hid hm
      have HCP := Lib.hid hcp
      clear hd hm hcp
      gi_wp2_with fail
      refine ⟨trivial, ?_⟩
      refine (callsIn_wide.2 HSL.out).mono ?_
      rintro e w1 ⟨rfl, rfl⟩
      gi_wp2_with fail
      refine ⟨trivial, ?_⟩
      refine (callsIn_wide.2 HLN.out).mono ?_
      rintro e w2 ⟨rfl, hb⟩
      have HJ2 := Lib.hid (of_below HOJ.out HJ.out hb)
      clear hb c1 HSL HLN
      obtain ⟨c1, hd⟩ := HI.out _ _ (HJI.out _ _ HJ2.out)
      have HRD := Lib.hid (cp_read hd hup i hlt ((X.n : Int) + (i : Int)) (by omega))
      rw [HM.out] at HRD
      clear hd
      gi_wp2_with fail
      refine ⟨trivial, ?_⟩
      refine (callsIn_wide.2 HRD.out).mono ?_
      rintro e w3 ⟨A, c, rfl, hmc, hcm, hr, hb⟩
      have HJ3 := Lib.hid (of_below HOJ.out HJ2.out hb)
      have HDE : Hid (Calls Tryz.prog 91 #[.slice A m c] w3 fun e w' => e = .returned (.tuple #[.agg #[.int .i64 b.epoch, .int .i64 b.conf.slots, .int .i64 b.conf.size, .int .i64 b.conf.reserve, .int .i64 b.conf.work, .int .i64 b.conf.key, .int .i64 b.conf.value, .int .i64 b.conf.policy], .int .i64 er]) ∧ Below w3.heap.size w3 w') := by
        have := decode_any A m c w3.heap.size (cpL X i) HM.out.symm (by omega) hmc hcm w3 hr (Nat.le_refl _)
        have e1 : decOf (cpL X i) = (er, b) := HCP.out
        rw [e1] at this
        exact this
      clear hb hr c1 HRD hmc hcm
      gi_wp2_with fail
      refine ⟨trivial, ?_⟩
      refine (callsIn_wide.2 HDE.out).mono ?_
      rintro e w4 ⟨rfl, hb⟩
      have HJ4 := Lib.hid (of_below HOJ.out HJ3.out hb)
      clear hb HDE HJ HJ2 HJ3
      by_cases her : er = 0
      · subst her
        obtain ⟨W5, hW5⟩ : ∃ W5 : World, W5 = w4.alloc (.cells #[.int .i64 b.epoch, .int .i64 b.conf.slots, .int .i64 b.conf.size, .int .i64 b.conf.reserve, .int .i64 b.conf.work, .int .i64 b.conf.key, .int .i64 b.conf.value, .int .i64 b.conf.policy] 33) := ⟨_, rfl⟩
        have HJ5 : Hid (J (validTo X i) W5) := of_below HOJ.out HJ4.out (by rw [hW5]; exact (Below.refl _ _).alloc (Nat.le_refl _) _)
        obtain ⟨fn, tmps, assign, body, hy, hR⟩ := HY.out _ (i, b) W5 HJ5.out ⟨rfl, HCP.out, hlt⟩
        have HE : Hid (validTo X (i + 1) = validTo X i ++ [(i, b)]) := by
          show (if (cpD X i).1 = 0 then validTo X i ++ [(i, (cpD X i).2)] else validTo X i) = _
          rw [HCP.out, if_pos rfl]
        have HR := Lib.hid hR
        unfold encC at hy
        try dsimp only at hy
        rw [hW5] at hy
        clear hR
        gi_wp2_with fail
        rw [← hW5]
        clear hW5
        refine HR.out.mono ?_
        rintro e W6 (⟨rfl, hJ6, hk6⟩ | ⟨rfl, hJx6, hk6⟩)
        · gi_wp2_with fail
          gi_roundg (gk - 1)
          case measure => have := HK.out; omega
          case rel => exact ⟨i + 1, by have := HK.out; omega, by go_num, by rw [HE.out]; exact hJ6⟩
        · gi_wp2_with fail
          refine bodyPost_ret (results_none rfl _ _ _) rfl ?_
          exact ⟨⟨_, rfl⟩, .inr ⟨_, trivial, hJx6⟩⟩
      · have hb0 : (er == 0) = false := by rw [beq_eq_false_iff_ne]; exact her
        have HE : Hid (validTo X (i + 1) = validTo X i) := by
          show (if (cpD X i).1 = 0 then validTo X i ++ [(i, (cpD X i).2)] else validTo X i) = _
          rw [HCP.out, if_neg her]
        have HJ5 : Hid (J (validTo X i) (w4.alloc (.cells #[.int .i64 b.epoch, .int .i64 b.conf.slots, .int .i64 b.conf.size, .int .i64 b.conf.reserve, .int .i64 b.conf.work, .int .i64 b.conf.key, .int .i64 b.conf.value, .int .i64 b.conf.policy] 33))) := of_below HOJ.out HJ4.out ((Below.refl _ _).alloc (Nat.le_refl _) _)
        clear her
        gi_wp2_with fail
        refine ⟨fun _ h => (by cases h), ?_⟩
        gi_wp2_with fail
        gi_roundg (gk - 1)
        case measure => have := HK.out; omega
        case rel => exact ⟨i + 1, by have := HK.out; omega, by go_num, by rw [HE.out]; exact HJ5.out⟩
    · have e2 : i = 2 := by omega
      subst e2
      gi_wp2_with fail
      go_end0
      exact ⟨⟨_, rfl⟩, .inl ⟨_, rfl, HJ.out⟩⟩
theorem results_blk_tmp2 {P : Program} {fn : Func} {p u u' : Tmp} {ty : TypeId} (h : fn.results = #[.cell p ty, .tmp u, .tmp u']) (tmps : Array Value) (w : World) (g : Nat) (t : TypeId) (cs : Array Value) (d : TypeDesc)
    (hp : tmps.getD p undef = .pointer (some ⟨g, 0, none⟩)) (hg : Blk w g t cs)
    (hu : P.underlying ty = some d) (hd : (match d with | .struct _ | .array _ _ => true | _ => false) = true) (hi : (P.info? ty).map (·.size) = some cs.size) :
    (results fn tmps).run P w = .ok (.tuple #[.agg cs, tmps.getD u undef, tmps.getD u' undef]) w := by
  have e : (results fn tmps).run P w = ((asAddr (tmps.getD p undef)).run P w).andThen fun a w₁ => ((loadVar ty a).run P w₁).andThen fun v w₂ => .ok (.tuple #[v, tmps.getD u undef, tmps.getD u' undef]) w₂ := by
    simp only [results, h]
    simp [Sem.run_bind, Result.andThen]
  rw [e, hp]
  simp only [asAddr, Sem.run_pure, Result.andThen_ok, run_loadVar_row w g t ty cs (0, 0) d hg hu hd hi]
end Go.Proofs.YtnopljanpjmbgaaGreat
namespace Go.Proofs.YtnopljanpjmbgaaGreat
open Go.RowKit Drum
set_option linter.unusedVariables false
attribute [local go_sem] Oper.semAt_some
theorem chg_setRow {F : Nat → Prop} {w0 w : World} {g : Nat} (h : Chg F w0 w) (hF : F g) (cs : Array Value) : Chg F w0 (w.setRow g cs) :=
  ⟨h.os, h.tape, h.output, by rw [size_setRow]; exact h.size, fun k hk hn => (setRow_other w g k cs (fun e => hn (e ▸ hF))).trans (h.block k hk hn)⟩
theorem blk_setRow {w : World} {g k : Nat} {t : TypeId} {cs : Array Value} (h : Blk w k t cs) (hk : k ≠ g) (row : Array Value) : Blk (w.setRow g row) k t cs := (setRow_other w g k row hk).trans h
/-- What the loop over the copies keeps. -/
structure RdI (w V : World) (b2 b6 b7 bc v : Nat) (a : Nat × Bk) : Prop where
  bel : Below w.heap.size w V
  k2 : Blk V b2 33 (bkv bk0)
  k6 : Blk V b6 33 (bkv a.2)
  k7 : Blk V b7 3 #[.int .i64 (a.1 : Int)]
  kc : Blk V bc 24 #[.pointer (some ⟨v, 0, none⟩)]
theorem RdI.grown {w V V' : World} {b2 b6 b7 bc v B : Nat} {a : Nat × Bk} {row : Option Nat} (h : RdI w V b2 b6 b7 bc v a) (hlt : b2 < B ∧ b6 < B ∧ b7 < B ∧ bc < B ∧ w.heap.size ≤ B) (hg : V.grownBy V' row) (hr : ∀ r, row = some r → B ≤ r) : RdI w V' b2 b6 b7 bc v a := by
  have ne : ∀ k, k < B → some k ≠ row := fun k hk e => by have := hr k e.symm; omega
  exact ⟨h.bel.trans ⟨hg.os, hg.tape, hg.output, hg.size, fun k hk => hg.block k (by have := h.bel.size; omega) (ne k (by omega))⟩, h.k2.grown hg (ne _ (by omega)), h.k6.grown hg (ne _ (by omega)), h.k7.grown hg (ne _ (by omega)), h.kc.grown hg (ne _ (by omega))⟩
theorem RdI.below {w V V' : World} {b2 b6 b7 bc v : Nat} {a : Nat × Bk} (h : RdI w V b2 b6 b7 bc v a) (hb : Below V.heap.size V V') : RdI w V' b2 b6 b7 bc v a :=
  ⟨h.bel.trans (hb.mono h.bel.size), h.k2.below hb h.k2.lt, h.k6.below hb h.k6.lt, h.k7.below hb h.k7.lt, h.kc.below hb h.kc.lt⟩
set_option maxRecDepth 100000 in
set_option maxHeartbeats 8000000 in
theorem dread_any {w : World} {v : Nat} {L : DLay} {X : DevD} (h : IsDev w v L X) :
    Calls Tryz.prog 8 #[.pointer (some ⟨v, 0, none⟩)] w fun e w' => e = .returned (.tuple #[.agg (bkv (readX X).2.2), .int .i64 ((readX X).2.1 : Int), .int .i64 (readX X).1]) ∧ Below w.heap.size w w' := by
  refine (callsIn_wide (n := 5)).1 ?_
  obtain ⟨W0, hW0⟩ : ∃ W0 : World, W0 = w.alloc (.cells #[.int .i64 0, .int .i64 0, .int .i64 0, .int .i64 0, .int .i64 0, .int .i64 0, .int .i64 0, .int .i64 0] 33) := ⟨_, rfl⟩
  have hb0 : Below w.heap.size w W0 := by rw [hW0]; exact (Below.refl _ _).alloc (Nat.le_refl _) _
  have hk0 : Blk W0 w.heap.size 33 (bkv bk0) := by rw [hW0]; exact Blk.new w _ _
  have HB0 := Lib.hid hb0
  have HK0 := Lib.hid hk0
  have HCK := Lib.hid (dcheck_any (h.below hb0) true)
  unfold chkD at HCK
  rw [if_pos rfl] at HCK
  have H := Lib.hid h
  cases hd : X.down with
  | true =>
    have HX : Hid (readX X = (13, 0, bk0)) := if_pos hd
    rw [hd, if_pos rfl] at HCK
    clear h hb0 hk0 hd
    refine callsIn_of_wp_marks Tryz.func8 rfl trivial ?_ rfl
    simp only [Tryz.ntmps8, List.size_toArray, List.length_cons, List.length_nil, Nat.reduceAdd, Nat.reduceSub, Array.replicate_succ, Array.replicate_zero, List.push_toArray, List.append_toArray, List.nil_append, List.cons_append]
    gi_wp2_with fail
    rw [← hW0]
    clear hW0
    refine ⟨trivial, ?_⟩
    refine (callsIn_wide.2 HCK.out).mono ?_
    rintro e w1 ⟨rfl, rfl⟩
    gi_wp2_with (refine wpListIn_store_row rfl 33 _ _ rfl w.heap.size (bkv bk0) rfl rfl 33 (bkv bk0) HK0.out bk_size rfl (bkv_one _) ?_)
    refine ⟨_, results_blk_tmp2 rfl _ _ w.heap.size 33 (bkv bk0) _ rfl (setRow_heap _ _ _ _ _ _ HK0.out) Tryz.underlying33 rfl bk_size, ?_, below_setRow HB0.out (Nat.le_refl _) _⟩
    rw [HX.out]
    rfl
  | false =>
    rw [hd, if_neg (by simp)] at HCK
    have hup := hd
    clear h hb0 hk0 hd
    refine callsIn_of_wp_marks Tryz.func8 rfl trivial ?_ rfl
    simp only [Tryz.ntmps8, List.size_toArray, List.length_cons, List.length_nil, Nat.reduceAdd, Nat.reduceSub, Array.replicate_succ, Array.replicate_zero, List.push_toArray, List.append_toArray, List.nil_append, List.cons_append]
    gi_wp2_with fail
    rw [← hW0]
    clear hW0
    refine ⟨trivial, ?_⟩
    refine (callsIn_wide.2 HCK.out).mono ?_
    rintro e w1 ⟨rfl, rfl⟩
    gi_wp2_with fail
    refine ⟨trivial, ?_⟩
    refine (callsIn_wide.2 (copies_any _ _)).mono ?_
    rintro e w1 ⟨rfl, rfl⟩
    gi_wp2_with fail
    obtain ⟨b2, hb2⟩ : ∃ b2, b2 = w.heap.size := ⟨_, rfl⟩
    obtain ⟨b6, hb6⟩ : ∃ b6, b6 = W0.heap.size := ⟨_, rfl⟩
    obtain ⟨b7, hb7⟩ : ∃ b7, b7 = W0.heap.size + 1 := ⟨_, rfl⟩
    obtain ⟨bc, hbc⟩ : ∃ bc, bc = W0.heap.size + 1 + 1 := ⟨_, rfl⟩
    obtain ⟨W1, hW1⟩ : ∃ W1 : World, W1 = ((W0.alloc (.cells #[.int .i64 0, .int .i64 0, .int .i64 0, .int .i64 0, .int .i64 0, .int .i64 0, .int .i64 0, .int .i64 0] 33)).alloc (.cells #[.int .i64 0] 3)).alloc (.cells #[.pointer (some ⟨v, 0, none⟩)] 24) := ⟨_, rfl⟩
    have HI0 : Hid (RdI w W1 b2 b6 b7 bc v (newestOf [])) := by
      have hk2 : Blk W0 b2 33 (bkv bk0) := by rw [hb2]; exact HK0.out
      have hk6 : Blk (W0.alloc (.cells (bkv bk0) 33)) b6 33 (bkv bk0) := by rw [hb6]; exact Blk.new _ _ _
      have hk7 : Blk ((W0.alloc (.cells (bkv bk0) 33)).alloc (.cells #[.int .i64 0] 3)) b7 3 #[.int .i64 0] := by rw [hb7]; have := Blk.new (W0.alloc (.cells (bkv bk0) 33)) 3 #[.int .i64 0]; rwa [World.size_alloc] at this
      have hkc : Blk W1 bc 24 #[.pointer (some ⟨v, 0, none⟩)] := by rw [hW1, hbc]; have := Blk.new ((W0.alloc (.cells (bkv bk0) 33)).alloc (.cells #[.int .i64 0] 3)) 24 #[.pointer (some ⟨v, 0, none⟩)]; rwa [World.size_alloc, World.size_alloc] at this
      have hsz := HB0.out.size
      refine ⟨?_, ?_, ?_, ?_, hkc⟩
      · rw [hW1]; exact ((HB0.out.alloc hsz _).alloc (by simp; omega) _).alloc (by simp; omega) _
      · rw [hW1]; exact ((hk2.alloc _).alloc _).alloc _
      · rw [hW1]; exact (hk6.alloc _).alloc _
      · rw [hW1]; exact hk7.alloc _
    have hs1 : W1.heap.size = W0.heap.size + 3 := by rw [hW1]; simp
    have hb26 : b2 < b6 := by have := HK0.out.lt; omega
    rw [← hW1, ← hbc, ← hb7, ← hb6, ← hb2]
    have HN : Hid (b2 < W1.heap.size ∧ b6 < W1.heap.size ∧ b7 < W1.heap.size ∧ bc < W1.heap.size ∧ w.heap.size ≤ W1.heap.size) := ⟨by omega, by omega, by omega, by omega, by omega⟩
    have HNE : Hid (b2 ≠ b6 ∧ b7 ≠ b6 ∧ bc ≠ b6 ∧ b2 ≠ b7 ∧ bc ≠ b7 ∧ w.heap.size ≤ b6 ∧ w.heap.size ≤ b7 ∧ w.heap.size ≤ b2) := ⟨by omega, by omega, by omega, by omega, by omega, by omega, by omega, by omega⟩
    clear hW1 hb6 hb7 hbc hb2 hs1 hb26 HK0 HB0 HCK
    refine wpIn_rangeFunc_on2 rfl (by omega) (gf := 90) (lb := #[.pointer (some ⟨bc, 0, none⟩)]) rfl trivial (enters_of Tryz.func90 (by kernel_rfl) rfl)
      (fun pre V => RdI w V b2 b6 b7 bc v (newestOf pre))
      (fun pre x b V => RdI w V b2 b6 b7 bc v (newestOf pre) ∧ Blk V b 33 (bkv x.2) ∧ W1.heap.size ≤ b)
      (fun c pre V => False)
      (copies1_on 4 (by omega) bc v L X hup _ W1 (fun pre V hV => ⟨hV.kc.cell 0, H.out.below hV.bel⟩)) (fun _ => rfl)
      ?hI ?hI2 (fun c _ _ _ _ h _ _ => h) HI0.out
      (fun x b => { tmps := #[.pointer (some ⟨v, 0, none⟩), undef, .pointer (some ⟨b2, 0, none⟩), .int .i64 0, .int .i64 0, .int .i64 0, .pointer (some ⟨b6, 0, none⟩), .pointer (some ⟨b7, 0, none⟩), .int .i64 (x.1 : Int), .pointer (some ⟨b, 0, none⟩), .pointer (some ⟨v, 0, none⟩), .int .i64 0, .int .i64 0, .bool false, undef, undef, .pointer (some ⟨v, 0, none⟩), .func (.func 90) #[] #[.pointer (some ⟨bc, 0, none⟩)],
        .int .i64 (x.1 : Int), .agg (bkv x.2), undef, undef, undef, undef, undef, undef, undef, undef, undef, undef, undef, undef, undef], defers := [] }) ?assign ?body ?done ?stop
    case hI =>
      rintro pre V V' row h1 hg hr
      exact h1.grown HN.out hg (fun r e => (hr r e).1)
    case hI2 =>
      rintro ⟨pre, x, b⟩ V V' row ⟨h1, h2, h3⟩ hg hr
      refine ⟨h1.grown HN.out hg (fun r e => (hr r e).1), ?_, h3⟩
      refine h2.grown hg (fun e => ?_)
      obtain ⟨_, o, ho, hc⟩ := hr b e.symm
      obtain ⟨ob, h4, h5⟩ := cellOb_blk _ _ _ V h2 b rfl
      rw [h4] at ho
      injection ho with ho
      subst ho
      rw [h5] at hc
      cases hc
    case assign =>
      rintro l pre ⟨i, x⟩ V h1 hpx hV K hK
      have HI1 := Lib.hid h1
      have HKK := Lib.hid hK
      clear h1 hpx hK HI0
      unfold encC
      gi_wp2_with fail
      exact HKK.out V.heap.size _ (KeepsAll.of_below ((Below.refl _ _).alloc (Nat.le_refl _) _)) ⟨HI1.out.below ((Below.refl _ _).alloc (Nat.le_refl _) _), Blk.new _ _ _, hV⟩
    case body =>
      rintro l pre ⟨i, x⟩ b V ⟨h1, h2, h3⟩ hpx hV
      have hsn := newestOf_snoc pre (i, x)
      generalize newestOf pre = a at h1 hsn
      obtain ⟨ai, ax⟩ := a
      have q0 : V.cell? ⟨b, 0, none⟩ = some (.int .i64 x.epoch) := h2.cell 0
      have q6 : V.cell? ⟨b6, 0, none⟩ = some (.int .i64 ax.epoch) := h1.k6.cell 0
      have HI1 := Lib.hid h1
      have HB := Lib.hid h2
      have hne := HNE.out
      by_cases hlt : ax.epoch < x.epoch
      · have hsn' : newestOf (pre ++ [(i, x)]) = (i, x) := hsn.trans (if_pos hlt)
        have HSN := Lib.hid hsn'
        have y7 : Blk (V.setRow b6 (bkv x)) b7 3 #[.int .i64 (ai : Int)] := blk_setRow h1.k7 hne.2.1 _
        have q7 : (V.setRow b6 (bkv x)).cell? ⟨b7, 0, none⟩ = some (.int .i64 (ai : Int)) := y7.cell 0
        have f7 := y7.frozen 0
        have hb : decide (ax.epoch < x.epoch) = true := by simpa using hlt
        clear h1 h2 h3 hpx hsn hsn' y7 HI0 hne hlt
        gi_wp2_with (first
          | (refine wpListIn_load_row rfl 33 _ rfl b rfl 33 (bkv x) (0, 0) _ HB.out Tryz.underlying33 rfl bk_size ?_)
          | (refine wpListIn_store_row rfl 33 _ _ rfl b6 (bkv x) rfl rfl 33 (bkv ax) HI1.out.k6 bk_size rfl (bkv_one _) ?_))
        have hne := HNE.out
        have hn := HN.out
        have hi := HI1.out
        refine ⟨KeepsAll.of_chg (F := fun q => q = b6 ∨ q = b7) ((chg_setRow (Chg.refl (fun q => q = b6 ∨ q = b7) V) (.inl rfl) (bkv x)).setCell (p := ⟨b7, 0, none⟩) (.inl (.inr rfl)) _) (fun q hq => by rcases hq with rfl | rfl <;> omega), ?_⟩
        show RdI w _ b2 b6 b7 bc v (newestOf (pre ++ [(i, x)]))
        rw [HSN.out]
        exact ⟨((below_setRow hi.bel (by omega) _).setCell (p := ⟨b7, 0, none⟩) (by show _ ≤ b7; omega) _), (blk_setRow hi.k2 hne.1 _).far (show b2 ≠ b7 by omega) _, (show Blk (V.setRow b6 (bkv x)) b6 _ (bkv x) from setRow_heap _ _ _ _ _ _ hi.k6).far (show b6 ≠ b7 by omega) _, Blk.set_ (blk_setRow hi.k7 hne.2.1 _) 0 _, (blk_setRow hi.kc hne.2.2.1 _).far (show bc ≠ b7 by omega) _⟩
      · have hsn' : newestOf (pre ++ [(i, x)]) = (ai, ax) := hsn.trans (if_neg hlt)
        have HSN := Lib.hid hsn'
        have hb : decide (ax.epoch < x.epoch) = false := by simpa using hlt
        clear h1 h2 h3 hpx hsn hsn' HI0 hlt
        gi_wp2_with fail
        refine ⟨KeepsAll.refl _ _, ?_⟩
        show RdI w _ b2 b6 b7 bc v (newestOf (pre ++ [(i, x)]))
        rw [HSN.out]
        exact HI1.out
    case done =>
      rintro D xs V hD rfl h1 hK
      have hXX : readX X = if (newestOf (validTo X 2)).2.epoch = 0 then (5, 0, bk0) else (0, (newestOf (validTo X 2)).1, (newestOf (validTo X 2)).2) := by
        unfold readX
        rw [hup, if_neg (by simp)]
      generalize newestOf (validTo X 2) = a at h1 hXX
      obtain ⟨ai, ax⟩ := a
      have q6 : V.cell? ⟨b6, 0, none⟩ = some (.int .i64 ax.epoch) := h1.k6.cell 0
      have q7 : V.cell? ⟨b7, 0, none⟩ = some (.int .i64 (ai : Int)) := h1.k7.cell 0
      have HI1 := Lib.hid h1
      have HK := Lib.hid hK
      have HDD := Lib.hid hD
      have hD2 : D ≠ b2 := by have := HN.out; omega
      have hwD : w.heap.size ≤ D := by have := HN.out; omega
      clear h1 hK HI0 hD
      by_cases h0 : ax.epoch = 0
      · have HX : Hid (readX X = (5, 0, bk0)) := hXX.trans (if_pos h0)
        have hb : (ax.epoch == 0) = true := by simpa using h0
        clear hXX h0
        gi_wp2_with (refine wpListIn_store_row rfl 33 _ _ rfl b2 (bkv bk0) rfl rfl 33 (bkv bk0) HI1.out.k2 bk_size rfl (bkv_one _) ?_)
        have hK' : (V.setRow b2 (bkv bk0)).heap[D]? = some (.deferred (some [])) := (setRow_other _ _ _ _ hD2).trans HK.out
        refine ⟨by simp, .inl ⟨_, _, rfl, run_takeDeferred hK', ?_⟩⟩
        have hbk : Blk ((V.setRow b2 (bkv bk0)).putObj D (.deferred none)) b2 33 (bkv bk0) := (World.putObj_heap_other (by first | exact hD2 | exact hD2.symm)).trans (setRow_heap _ _ _ _ _ _ HI1.out.k2)
        refine ⟨_, results_blk_tmp2 rfl _ _ b2 33 (bkv bk0) _ rfl hbk Tryz.underlying33 rfl bk_size, ?_, ?_⟩
        · rw [HX.out]; rfl
        · have hb := below_setRow HI1.out.bel HNE.out.2.2.2.2.2.2.2 (bkv bk0)
          exact ⟨hb.os, hb.tape, hb.output, by simp [World.putObj]; exact HI1.out.bel.size, fun k hk => (World.putObj_heap_other (by omega)).trans (hb.block k hk)⟩
      · have HX : Hid (readX X = (0, ai, ax)) := hXX.trans (if_neg h0)
        have hb : (ax.epoch == 0) = false := by simpa using h0
        have hne1 : b2 ≠ b7 := HNE.out.2.2.2.1
        have hne2 : b7 ≠ b2 := fun e => hne1 e.symm
        have r20 : V.cell? ⟨b2, 0, none⟩ = some (.int .i64 0) := HI1.out.k2.cell 0
        have f20 := HI1.out.k2.frozen 0
        have r21 : V.cell? ⟨b2, 1, none⟩ = some (.int .i64 0) := HI1.out.k2.cell 1
        have f21 := HI1.out.k2.frozen 1
        have r22 : V.cell? ⟨b2, 2, none⟩ = some (.int .i64 0) := HI1.out.k2.cell 2
        have f22 := HI1.out.k2.frozen 2
        have r23 : V.cell? ⟨b2, 3, none⟩ = some (.int .i64 0) := HI1.out.k2.cell 3
        have f23 := HI1.out.k2.frozen 3
        have r24 : V.cell? ⟨b2, 4, none⟩ = some (.int .i64 0) := HI1.out.k2.cell 4
        have f24 := HI1.out.k2.frozen 4
        have r25 : V.cell? ⟨b2, 5, none⟩ = some (.int .i64 0) := HI1.out.k2.cell 5
        have f25 := HI1.out.k2.frozen 5
        have r26 : V.cell? ⟨b2, 6, none⟩ = some (.int .i64 0) := HI1.out.k2.cell 6
        have f26 := HI1.out.k2.frozen 6
        have r27 : V.cell? ⟨b2, 7, none⟩ = some (.int .i64 0) := HI1.out.k2.cell 7
        have f27 := HI1.out.k2.frozen 7
        have q61 : V.cell? ⟨b6, 1, none⟩ = some (.int .i64 ax.conf.slots) := HI1.out.k6.cell 1
        have q62 : V.cell? ⟨b6, 2, none⟩ = some (.int .i64 ax.conf.size) := HI1.out.k6.cell 2
        have q63 : V.cell? ⟨b6, 3, none⟩ = some (.int .i64 ax.conf.reserve) := HI1.out.k6.cell 3
        have q64 : V.cell? ⟨b6, 4, none⟩ = some (.int .i64 ax.conf.work) := HI1.out.k6.cell 4
        have q65 : V.cell? ⟨b6, 5, none⟩ = some (.int .i64 ax.conf.key) := HI1.out.k6.cell 5
        have q66 : V.cell? ⟨b6, 6, none⟩ = some (.int .i64 ax.conf.value) := HI1.out.k6.cell 6
        have q67 : V.cell? ⟨b6, 7, none⟩ = some (.int .i64 ax.conf.policy) := HI1.out.k6.cell 7
        clear hXX h0
        gi_wp2_with fail
        refine wpIn_wide.2 ?_
        go_region
        all_goals
          gi_wp2_with fail
          have hb2w : w.heap.size ≤ b2 := HNE.out.2.2.2.2.2.2.2
          have hz := ((((((((HI1.out.k2.set_ 0 (.int .i64 ax.epoch)).set_ 1 (.int .i64 ax.conf.slots)).set_ 2 (.int .i64 ax.conf.size)).set_ 3 (.int .i64 ax.conf.reserve)).set_ 4 (.int .i64 ax.conf.work)).set_ 5 (.int .i64 ax.conf.key)).set_ 6 (.int .i64 ax.conf.value)).set_ 7 (.int .i64 ax.conf.policy))
          have hbz := ((((((((HI1.out.bel.setCell (p := ⟨b2, 0, none⟩) hb2w (.int .i64 ax.epoch)).setCell (p := ⟨b2, 1, none⟩) hb2w (.int .i64 ax.conf.slots)).setCell (p := ⟨b2, 2, none⟩) hb2w (.int .i64 ax.conf.size)).setCell (p := ⟨b2, 3, none⟩) hb2w (.int .i64 ax.conf.reserve)).setCell (p := ⟨b2, 4, none⟩) hb2w (.int .i64 ax.conf.work)).setCell (p := ⟨b2, 5, none⟩) hb2w (.int .i64 ax.conf.key)).setCell (p := ⟨b2, 6, none⟩) hb2w (.int .i64 ax.conf.value)).setCell (p := ⟨b2, 7, none⟩) hb2w (.int .i64 ax.conf.policy))
          have hkz := ((KeepsOthers.setCell (((((((V.setCell ⟨b2, 0, none⟩ (.int .i64 ax.epoch)).setCell ⟨b2, 1, none⟩ (.int .i64 ax.conf.slots)).setCell ⟨b2, 2, none⟩ (.int .i64 ax.conf.size)).setCell ⟨b2, 3, none⟩ (.int .i64 ax.conf.reserve)).setCell ⟨b2, 4, none⟩ (.int .i64 ax.conf.work)).setCell ⟨b2, 5, none⟩ (.int .i64 ax.conf.key)).setCell ⟨b2, 6, none⟩ (.int .i64 ax.conf.value)) ⟨b2, 7, none⟩ (.int .i64 ax.conf.policy)).same D _ ((KeepsOthers.setCell ((((((V.setCell ⟨b2, 0, none⟩ (.int .i64 ax.epoch)).setCell ⟨b2, 1, none⟩ (.int .i64 ax.conf.slots)).setCell ⟨b2, 2, none⟩ (.int .i64 ax.conf.size)).setCell ⟨b2, 3, none⟩ (.int .i64 ax.conf.reserve)).setCell ⟨b2, 4, none⟩ (.int .i64 ax.conf.work)).setCell ⟨b2, 5, none⟩ (.int .i64 ax.conf.key)) ⟨b2, 6, none⟩ (.int .i64 ax.conf.value)).same D _ ((KeepsOthers.setCell (((((V.setCell ⟨b2, 0, none⟩ (.int .i64 ax.epoch)).setCell ⟨b2, 1, none⟩ (.int .i64 ax.conf.slots)).setCell ⟨b2, 2, none⟩ (.int .i64 ax.conf.size)).setCell ⟨b2, 3, none⟩ (.int .i64 ax.conf.reserve)).setCell ⟨b2, 4, none⟩ (.int .i64 ax.conf.work)) ⟨b2, 5, none⟩ (.int .i64 ax.conf.key)).same D _ ((KeepsOthers.setCell ((((V.setCell ⟨b2, 0, none⟩ (.int .i64 ax.epoch)).setCell ⟨b2, 1, none⟩ (.int .i64 ax.conf.slots)).setCell ⟨b2, 2, none⟩ (.int .i64 ax.conf.size)).setCell ⟨b2, 3, none⟩ (.int .i64 ax.conf.reserve)) ⟨b2, 4, none⟩ (.int .i64 ax.conf.work)).same D _ ((KeepsOthers.setCell (((V.setCell ⟨b2, 0, none⟩ (.int .i64 ax.epoch)).setCell ⟨b2, 1, none⟩ (.int .i64 ax.conf.slots)).setCell ⟨b2, 2, none⟩ (.int .i64 ax.conf.size)) ⟨b2, 3, none⟩ (.int .i64 ax.conf.reserve)).same D _ ((KeepsOthers.setCell ((V.setCell ⟨b2, 0, none⟩ (.int .i64 ax.epoch)).setCell ⟨b2, 1, none⟩ (.int .i64 ax.conf.slots)) ⟨b2, 2, none⟩ (.int .i64 ax.conf.size)).same D _ ((KeepsOthers.setCell (V.setCell ⟨b2, 0, none⟩ (.int .i64 ax.epoch)) ⟨b2, 1, none⟩ (.int .i64 ax.conf.slots)).same D _ ((KeepsOthers.setCell V ⟨b2, 0, none⟩ (.int .i64 ax.epoch)).same D _ HK.out rfl) rfl) rfl) rfl) rfl) rfl) rfl) rfl)
          generalize ((((((((V.setCell ⟨b2, 0, none⟩ (.int .i64 ax.epoch)).setCell ⟨b2, 1, none⟩ (.int .i64 ax.conf.slots)).setCell ⟨b2, 2, none⟩ (.int .i64 ax.conf.size)).setCell ⟨b2, 3, none⟩ (.int .i64 ax.conf.reserve)).setCell ⟨b2, 4, none⟩ (.int .i64 ax.conf.work)).setCell ⟨b2, 5, none⟩ (.int .i64 ax.conf.key)).setCell ⟨b2, 6, none⟩ (.int .i64 ax.conf.value)).setCell ⟨b2, 7, none⟩ (.int .i64 ax.conf.policy)) = Wz at hz hbz hkz ⊢
          refine ⟨by simp, .inl ⟨_, _, rfl, run_takeDeferred (w := Wz.drew) hkz, ?_⟩⟩
          have hbk : Blk (Wz.drew.putObj D (.deferred none)) b2 33 (bkv ax) := (World.putObj_heap_other (by first | exact hD2 | exact hD2.symm)).trans hz
          refine ⟨_, results_blk_tmp2 rfl _ _ b2 33 (bkv ax) _ rfl hbk Tryz.underlying33 rfl bk_size, ?_, ?_⟩
          · rw [HX.out]; rfl
          · exact ⟨hbz.os, hbz.tape, hbz.output, by simp [World.putObj]; exact hbz.size, fun k hk => (World.putObj_heap_other (by omega)).trans (hbz.block k hk)⟩
    case stop =>
      rintro D c pre V hD hpre hno hK
      exact hno.elim
end Go.Proofs.YtnopljanpjmbgaaGreat

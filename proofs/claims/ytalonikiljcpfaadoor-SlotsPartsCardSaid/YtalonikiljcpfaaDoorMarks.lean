/-
  Marks of ranges over functions among the deferred calls, as objects. No condition.
-/
import Derived.Test.YtalonikiljcpfaaDoorSeqOn
namespace Go.Proofs.YtalonikiljcpfaaDoor
open Go.RowKit
set_option linter.unusedVariables false
/-- A mark's block. -/
def markOb (D : Nat) : Ob where
  P w := w.heap[D]? = some (.deferred (some []))
  F k := k = D
  keep hc hF h := (hc.block D (Array.getElem?_eq_some_iff.1 h).1 (hF _ rfl)).trans h
  lt h k hk := by subst hk; exact (Array.getElem?_eq_some_iff.1 h).1
def markD (D : Nat) : Deferred := { target := .collected D, args := #[] }
def marks (l : List Nat) : List Ob := l.map markOb
def markDs (l : List Nat) : List Deferred := l.map markD
theorem marks_cons (D : Nat) (l : List Nat) : marks (D :: l) = markOb D :: marks l := rfl
theorem markDs_cons (D : Nat) (l : List Nat) : markDs (D :: l) = ({ target := .collected D, args := #[] } : Deferred) :: markDs l := rfl
theorem mem_marks {D : Nat} {l : List Nat} (h : D ∈ l) : markOb D ∈ marks l := List.mem_map.2 ⟨D, h, rfl⟩
theorem nodup_marks {l : List Nat} (h : (marks l).Pairwise (fun a b => ∀ k, a.F k → ¬ b.F k)) : l.Nodup := by
  unfold marks at h
  rw [List.pairwise_map] at h
  exact h.imp (fun hab e => hab _ rfl e)
theorem chg_putObj (F : Nat → Prop) (w : World) (D : Nat) (o : Obj) (hF : F D) : Chg F w (w.putObj D o) :=
  ⟨rfl, rfl, rfl, by simp [World.putObj], fun k hk hn => World.putObj_heap_other (fun e => hn (by first | exact e ▸ hF | (rw [← e]; exact hF) | (rw [e]; exact hF)))⟩
theorem leaves_marks {F : Fence} {n : Nat} {P : Program} {fn : Func} {tmps : Array Value} {R : Ending → World → Prop} (l : List Nat) : ∀ (w : World), (∀ D, D ∈ l → w.heap[D]? = some (.deferred (some []))) → l.Nodup →
    (∀ w', Chg (fun k => k ∈ l) w w' → LeavesIn F n P fn tmps R [] .returning w') → LeavesInM F n P fn tmps R (markDs l) .returning w := by
  induction l with
  | nil => exact fun w _ _ h => h w (Chg.refl _ _)
  | cons D l ih =>
    intro w hk hnd h
    obtain ⟨hD, hnd'⟩ := List.nodup_cons.1 hnd
    refine ⟨by simp, .inl ⟨D, _, rfl, run_takeDeferred (hk D (.head _)), ?_⟩⟩
    refine ih _ (fun D' hD' => ?_) hnd' (fun w' hc => h w' ?_)
    · have hne : D ≠ D' := fun e => by subst e; exact hD hD'
      exact (World.putObj_heap_other (by first | exact hne | exact hne.symm)).trans (hk D' (.tail _ hD'))
    · exact (chg_putObj (fun k => k ∈ D :: l) w D _ (.head _)).trans hc (fun i _ hi => .tail _ hi)
/-- A function that leaves with marks alone. -/
theorem leaves_sep {B : Nat} {w0 w : World} {F : Fence} {n : Nat} {P : Program} {fn : Func} {tmps : Array Value} {R : Ending → World → Prop} {os : List Ob} {l : List Nat} (h : Sep B w0 w (os ++ marks l))
    (hr : ∀ w', Sep B w0 w' os → Chg (fun k => k ∈ l) w w' → LeavesIn F n P fn tmps R [] .returning w') : LeavesInM F n P fn tmps R (markDs l) .returning w := by
  have hs : Sep B w0 w (marks l) := h.sub (List.sublist_append_right _ _)
  have hs1 : Sep B w0 w os := h.sub (List.sublist_append_left _ _)
  refine leaves_marks l w (fun D hD => hs.get (mem_marks hD)) (nodup_marks hs.apart) (fun w' hc => hr w' ?_ hc)
  have hl : ∀ k, k ∈ l → B ≤ k := fun k hk => (hs.all _ (mem_marks hk)).2 k rfl
  refine ⟨hs1.bel.trans ⟨hc.os, hc.tape, hc.output, hc.size, fun k hk => hc.block k (by have := hs.big; omega) (fun e => by have := hl k e; omega)⟩, Nat.le_trans hs.big hc.size, fun o ho => ⟨o.keep hc (fun k hk hkl => ?_) (hs1.get ho), (hs1.all o ho).2⟩, hs1.apart⟩
  exact (List.pairwise_append.1 h.apart).2.2 o ho _ (mem_marks hkl) k hk rfl
/-- What a range over a function asks, where older marks are among the objects. -/
theorem Sep.othersM {B B' : Nat} {w0 w w' : World} {os : List Ob} {row : Option Nat} (hC : ∀ o, o ∈ os → CellOb o ∨ ∀ k, o.F k → k < B') (hB : B ≤ B') (h : Sep B w0 w os) (hg : w.grownBy w' row)
    (hr : ∀ r, row = some r → B' ≤ r ∧ ∃ o : Obj, w.heap[r]? = some o ∧ o.isCells = false) : Sep B w0 w' os := by
  have hb : Below B w w' := (Below.refl B w).grown hg h.big (fun k e => Nat.le_trans hB (hr k e).1)
  refine ⟨h.bel.trans hb, Nat.le_trans h.big hb.size, fun o ho => ⟨o.keep (G := fun k => row = some k) ((Chg.refl _ w).grown hg (fun q hq => .inl hq)) (fun k hk hrow => ?_) (h.all o ho).1, (h.all o ho).2⟩, h.apart⟩
  obtain ⟨hk2, ob', h3, h4⟩ := hr k hrow
  rcases hC o ho with hc | hc
  · obtain ⟨ob, h1, h2⟩ := hc w (h.all o ho).1 k hk
    rw [h1] at h3
    injection h3 with h3
    subst h3
    rw [h2] at h4
    cases h4
  · have := hc k hk
    omega
theorem marks_low {w : World} {B : Nat} {w0 : World} {os : List Ob} {l : List Nat} (h : Sep B w0 w (os ++ marks l)) : ∀ o, o ∈ marks l → ∀ k, o.F k → k < w.heap.size := fun o ho k hk => o.lt (h.get (List.mem_append_right _ ho)) k hk
theorem grow_marks {B : Nat} {w0 w : World} {os : List Ob} {l : List Nat} {D : Nat} (h : Sep B w0 w (os ++ marks l)) (hD : w.heap[D]? = some (.deferred (some []))) (hB : B ≤ D) (ho : ∀ o, o ∈ os ++ marks l → ∀ k, o.F k → k ≠ D) : Sep B w0 w (os ++ marks (D :: l)) := by
  have h1 : Sep B w0 w (markOb D :: (os ++ marks l)) := by
    refine ⟨h.bel, h.big, fun o ho' => ?_, .cons (fun o ho' k hk hk2 => ?_) h.apart⟩
    · rcases List.mem_cons.1 ho' with rfl | ho'
      · exact ⟨hD, fun k hk => by have e : k = D := hk; omega⟩
      · exact h.all o ho'
    · have e : k = D := hk
      exact ho o ho' k hk2 e
  exact h1.perm List.perm_middle.symm
/-- A statement that lays one more mark, and leaves the frame: all that follows, once. -/
theorem wpIn_cut_mark {F : Fence} {rm : Nat} {P : Program} {s : Code} {K : Act → World → Prop} {Q' : Exit → Act → World → Prop} {a : Act} {w : World} (R : Nat → World → Prop)
    (first : ∀ (K' : Act → World → Prop), (∀ D w', R D w' → K' { a with defers := { target := .collected D, args := #[] } :: a.defers } w') → s.wpIn F rm P (Exit.then K' Q') a w)
    (rest : ∀ D w', R D w' → K { a with defers := { target := .collected D, args := #[] } :: a.defers } w') : s.wpIn F rm P (Exit.then K Q') a w := by
  refine wpIn_mono (first (fun a' w' => ∃ D, a' = { a with defers := { target := .collected D, args := #[] } :: a.defers } ∧ R D w') (fun D w' h => ⟨D, rfl, h⟩)) ?_
  intro e a' w' hq
  cases e with
  | normal => obtain ⟨D, rfl, h⟩ := hq; exact rest D w' h
  | exit id => exact hq
  | goto l => exact hq
  | ret => exact hq
  | panic ch => exact hq
  | outgrown => exact hq
theorem wpIn_cut_markB {F : Fence} {rm : Nat} {P : Program} {s : Code} {b : Nat} {K : Act → World → Prop} {Q' : Exit → Act → World → Prop} {a : Act} {w : World} (R : Nat → World → Prop)
    (first : ∀ (K' : Act → World → Prop), (∀ D w', R D w' → K' { a with defers := { target := .collected D, args := #[] } :: a.defers } w') → s.wpIn F rm P (Exit.inBlock b (Exit.then K' Q')) a w)
    (rest : ∀ D w', R D w' → K { a with defers := { target := .collected D, args := #[] } :: a.defers } w') : s.wpIn F rm P (Exit.inBlock b (Exit.then K Q')) a w := by
  refine wpIn_mono (first (fun a' w' => ∃ D, a' = { a with defers := { target := .collected D, args := #[] } :: a.defers } ∧ R D w') (fun D w' h => ⟨D, rfl, h⟩)) ?_
  intro e a' w' hq
  cases e with
  | normal => obtain ⟨D, rfl, h⟩ := hq; exact rest D w' h
  | exit id =>
    by_cases h : id = b
    · have hq' : (if id = b then Exit.then (fun a' w' => ∃ D, a' = { a with defers := { target := .collected D, args := #[] } :: a.defers } ∧ R D w') Q' .normal a' w' else Exit.then (fun a' w' => ∃ D, a' = { a with defers := { target := .collected D, args := #[] } :: a.defers } ∧ R D w') Q' (.exit id) a' w') := hq
      rw [if_pos h] at hq'
      show (if id = b then Exit.then K Q' .normal a' w' else Exit.then K Q' (.exit id) a' w')
      rw [if_pos h]
      obtain ⟨D, rfl, h⟩ := hq'
      exact rest D w' h
    · have hq' : (if id = b then Exit.then (fun a' w' => ∃ D, a' = { a with defers := { target := .collected D, args := #[] } :: a.defers } ∧ R D w') Q' .normal a' w' else Exit.then (fun a' w' => ∃ D, a' = { a with defers := { target := .collected D, args := #[] } :: a.defers } ∧ R D w') Q' (.exit id) a' w') := hq
      rw [if_neg h] at hq'
      show (if id = b then Exit.then K Q' .normal a' w' else Exit.then K Q' (.exit id) a' w')
      rw [if_neg h]
      exact hq'
  | goto l => exact hq
  | ret => exact hq
  | panic ch => exact hq
  | outgrown => exact hq
end Go.Proofs.YtalonikiljcpfaaDoor

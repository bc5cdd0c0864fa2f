/-
  What the disk laws know of a disk (drumlinlaw10.known), in memory. No condition.
-/
import Derived.Test.YtelobbigpgfobaaDint
import Derived.Deep.RegionLaw
import Derived.StillTailTactics
namespace Go.Proofs.Ytelobbigpgfobaa
open Go.RowKit
set_option linter.unusedVariables false
def kbv (D : Nat → SlotD) (bs : Bts) (i : Nat) : Value := .slice (bs i).1 (D i).bytes.length (bs i).2
def kbRow (D : Nat → SlotD) (bs : Bts) (n : Nat) : Array Value := ((List.range n).map (kbv D bs)).toArray
def kdRow (D : Nat → SlotD) (n : Nat) : Array Value := ((List.range n).map fun i => Value.int .i64 ((D i).dur : Int)).toArray
theorem kbRow_at {D : Nat → SlotD} {bs : Bts} {n i : Nat} (h : i < n) : (kbRow D bs n)[i]? = some (.slice (bs i).1 (D i).bytes.length (bs i).2) := by simp [kbRow, h, kbv]
theorem kdRow_at {D : Nat → SlotD} {n i : Nat} (h : i < n) : (kdRow D n)[i]? = some (.int .i64 ((D i).dur : Int)) := by simp [kdRow, h]
theorem kbRow_set (D : Nat → SlotD) (bs : Bts) {n i : Nat} (h : i < n) (x : SlotD) (b : Option Addr × Nat) : (kbRow D bs n).setIfInBounds i (.slice b.1 x.bytes.length b.2) = kbRow (updF D i x) (updF bs i b) n := by
  apply Array.ext_getElem?
  intro q
  by_cases hq : q < n
  · rw [kbRow_at hq, Array.getElem?_setIfInBounds]
    by_cases e : i = q
    · subst e
      rw [if_pos rfl, if_pos (by simp [kbRow]; exact h), updF_same, updF_same]
    · rw [if_neg e, kbRow_at hq, updF_other _ _ (fun h => e h.symm), updF_other _ _ (fun h => e h.symm)]
  · rw [Array.getElem?_eq_none (by simp [kbRow]; omega), Array.getElem?_eq_none (by simp [kbRow]; omega)]
theorem kdRow_set (D : Nat → SlotD) {n i : Nat} (h : i < n) (x : SlotD) : (kdRow D n).setIfInBounds i (.int .i64 (x.dur : Int)) = kdRow (updF D i x) n := by
  apply Array.ext_getElem?
  intro q
  by_cases hq : q < n
  · rw [kdRow_at hq, Array.getElem?_setIfInBounds]
    by_cases e : i = q
    · subst e
      rw [if_pos rfl, if_pos (by simp [kdRow]; exact h), updF_same]
    · rw [if_neg e, kdRow_at hq, updF_other _ _ (fun h => e h.symm)]
  · rw [Array.getElem?_eq_none (by simp [kdRow]; omega), Array.getElem?_eq_none (by simp [kdRow]; omega)]
theorem kdRow_congr {D D' : Nat → SlotD} {n : Nat} (h : ∀ i, i < n → (D' i).dur = (D i).dur) : kdRow D' n = kdRow D n := by
  unfold kdRow
  congr 1
  apply List.map_congr_left
  intro q hq
  rw [h q (List.mem_range.1 hq)]
theorem kbRow_congr {D D' : Nat → SlotD} {bs : Bts} {n : Nat} (h : ∀ i, i < n → (D' i).bytes = (D i).bytes) : kbRow D' bs n = kbRow D bs n := by
  unfold kbRow
  congr 1
  apply List.map_congr_left
  intro q hq
  unfold kbv
  rw [h q (List.mem_range.1 hq)]
/-- Block k; its rows gb and gd; everything else in the blocks S, which are not written any more. The disk's block is d. -/
structure IsKnown (w : World) (S : Nat → Prop) (k gb gd d size n : Nat) (D : Nat → SlotD) : Prop where
  blk : Blk w k 34 #[.pointer (some ⟨d, 0, none⟩), .int .i64 (size : Int), .slice (some ⟨gb, 0, none⟩) n n, .slice (some ⟨gd, 0, none⟩) n n]
  row : ∃ bs, Blk w gb 36 (kbRow D bs n) ∧ ∀ i, i < n → BytesAt w S (bs i).1 (bs i).2 (D i).bytes
  dur : Blk w gd 3 (kdRow D n)
  ne : k ≠ gb ∧ k ≠ gd ∧ gb ≠ gd
  ns : ¬ S k ∧ ¬ S gb ∧ ¬ S gd
  cel : CellsIn w S
  nums : ∀ i, i < n → (D i).dur ≤ (D i).bytes.length ∧ (D i).bytes.length ≤ (D i).size ∧ (D i).size = size
  sz : 1 ≤ size ∧ size ≤ 8192
def kfoot (S : Nat → Prop) (k gb gd : Nat) : Nat → Prop := fun q => q = k ∨ q = gb ∨ q = gd ∨ S q
section
variable {w w' : World} {S S' : Nat → Prop} {k gb gd d size n : Nat} {D D' : Nat → SlotD}
theorem IsKnown.chg {F : Nat → Prop} (h : IsKnown w S k gb gd d size n D) (hc : Chg F w w') (hF : ∀ q, kfoot S k gb gd q → ¬ F q) : IsKnown w' S k gb gd d size n D := by
  obtain ⟨bs, h1, h2⟩ := h.row
  exact ⟨h.blk.chg hc (hF _ (.inl rfl)), ⟨bs, h1.chg hc (hF _ (.inr (.inl rfl))), fun i hi => (h2 i hi).chg h.cel.lt hc (fun q hq => hF _ (.inr (.inr (.inr hq))))⟩, h.dur.chg hc (hF _ (.inr (.inr (.inl rfl)))), h.ne, h.ns, h.cel.chg hc (fun q hq => hF _ (.inr (.inr (.inr hq)))), h.nums, h.sz⟩
theorem IsKnown.below (h : IsKnown w S k gb gd d size n D) (hb : Below w.heap.size w w') : IsKnown w' S k gb gd d size n D := h.chg (F := fun _ => False) (Chg.of_below hb) (fun _ _ h => h)
theorem IsKnown.lt (h : IsKnown w S k gb gd d size n D) : ∀ q, kfoot S k gb gd q → q < w.heap.size := by
  rintro q (rfl | rfl | rfl | hq)
  · exact h.blk.lt
  · obtain ⟨bs, h1, _⟩ := h.row
    exact h1.lt
  · exact h.dur.lt
  · exact h.cel.lt q hq
theorem IsKnown.cells (h : IsKnown w S k gb gd d size n D) : w.cell? ⟨k, 0, none⟩ = some (.pointer (some ⟨d, 0, none⟩)) ∧ w.cell? ⟨k, 1, none⟩ = some (.int .i64 (size : Int)) ∧ w.cell? ⟨k, 2, none⟩ = some (.slice (some ⟨gb, 0, none⟩) n n) ∧ w.cell? ⟨k, 3, none⟩ = some (.slice (some ⟨gd, 0, none⟩) n n) :=
  ⟨h.blk.cell 0, h.blk.cell 1, h.blk.cell 2, h.blk.cell 3⟩
theorem IsKnown.slot (h : IsKnown w S k gb gd d size n D) (i : Nat) (hi : i < n) : ∃ B cb, w.cell? ⟨gb, i, none⟩ = some (.slice B (D i).bytes.length cb) ∧ w.cell? ⟨gd, i, none⟩ = some (.int .i64 ((D i).dur : Int)) ∧ w.frozen? ⟨gb, i, none⟩ = false ∧ w.frozen? ⟨gd, i, none⟩ = false ∧ BytesAt w S B cb (D i).bytes := by
  obtain ⟨bs, h1, h2⟩ := h.row
  exact ⟨_, _, by rw [h1.cell, kbRow_at hi], by rw [h.dur.cell, kdRow_at hi], h1.frozen i, h.dur.frozen i, h2 i hi⟩
theorem IsKnown.more (h : IsKnown w S k gb gd d size n D) (hS : ∀ q, S q → S' q) (hn : ¬ S' k ∧ ¬ S' gb ∧ ¬ S' gd) (hl : CellsIn w S') : IsKnown w S' k gb gd d size n D := by
  obtain ⟨bs, h1, h2⟩ := h.row
  exact ⟨h.blk, ⟨bs, h1, fun i hi => (h2 i hi).more hS⟩, h.dur, h.ne, hn, hl, h.nums, h.sz⟩
/-- Both rows have been stored into, at one slot; the new bytes lie in S. -/
theorem IsKnown.upd (h : IsKnown w S k gb gd d size n D) {i : Nat} (hi : i < n) (x : SlotD) (B : Option Addr) (cb : Nat) (hb : BytesAt w S B cb x.bytes) (hx : x.dur ≤ x.bytes.length ∧ x.bytes.length ≤ x.size ∧ x.size = size) :
    IsKnown ((w.setCell ⟨gb, i, none⟩ (.slice B x.bytes.length cb)).setCell ⟨gd, i, none⟩ (.int .i64 (x.dur : Int))) S k gb gd d size n (updF D i x) := by
  obtain ⟨bs, h1, h2⟩ := h.row
  obtain ⟨e1, e2, e3⟩ := h.ne
  obtain ⟨n1, n2, n3⟩ := h.ns
  have hc : Chg (fun q => q = gb ∨ q = gd) w ((w.setCell ⟨gb, i, none⟩ (.slice B x.bytes.length cb)).setCell ⟨gd, i, none⟩ (.int .i64 (x.dur : Int))) := ((Chg.refl _ w).setCell (p := ⟨gb, i, none⟩) (.inl (.inl rfl)) _).setCell (p := ⟨gd, i, none⟩) (.inl (.inr rfl)) _
  have hS : ∀ q, S q → ¬ (q = gb ∨ q = gd) := by
    rintro q hq (rfl | rfl)
    · exact n2 hq
    · exact n3 hq
  refine ⟨h.blk.chg hc (by rintro (e | e); exact e1 e; exact e2 e), ⟨updF bs i (B, cb), ?_, fun j hj => ?_⟩, ?_, h.ne, h.ns, h.cel.chg hc hS, fun j hj => ?_, h.sz⟩
  · rw [← kbRow_set D bs hi x (B, cb)]
    exact (h1.set_ i _).far (by exact e3) _
  · by_cases e : j = i
    · subst e
      rw [updF_same, updF_same]
      exact hb.chg h.cel.lt hc hS
    · rw [updF_other _ _ e, updF_other _ _ e]
      exact (h2 j hj).chg h.cel.lt hc hS
  · rw [← kdRow_set D hi x]
    exact (h.dur.far (p := ⟨gb, i, none⟩) (by exact fun e => e3 e.symm) _).set_ i _
  · by_cases e : j = i
    · subst e; rw [updF_same]; exact hx
    · rw [updF_other _ _ e]; exact h.nums j hj
/-- The durable numbers alone have been stored into. -/
theorem IsKnown.updD (h : IsKnown w S k gb gd d size n D) {i : Nat} (hi : i < n) (x : SlotD) (hbx : x.bytes = (D i).bytes) (hx : x.dur ≤ x.bytes.length ∧ x.bytes.length ≤ x.size ∧ x.size = size) :
    IsKnown (w.setCell ⟨gd, i, none⟩ (.int .i64 (x.dur : Int))) S k gb gd d size n (updF D i x) := by
  obtain ⟨bs, h1, h2⟩ := h.row
  obtain ⟨e1, e2, e3⟩ := h.ne
  obtain ⟨n1, n2, n3⟩ := h.ns
  have hc : Chg (fun q => q = gd) w (w.setCell ⟨gd, i, none⟩ (.int .i64 (x.dur : Int))) := (Chg.refl (fun q => q = gd) w).setCell (p := ⟨gd, i, none⟩) (.inl rfl) _
  have hS : ∀ q, S q → ¬ q = gd := fun q hq e => n3 (by rw [← e]; exact hq)
  have hby : ∀ j, j < n → (updF D i x j).bytes = (D j).bytes := fun j hj => by
    by_cases e : j = i
    · subst e; rw [updF_same]; exact hbx
    · rw [updF_other _ _ e]
  refine ⟨h.blk.chg hc (fun e => e2 e), ⟨bs, ?_, fun j hj => ?_⟩, ?_, h.ne, h.ns, h.cel.chg hc hS, fun j hj => ?_, h.sz⟩
  · rw [kbRow_congr hby]
    exact h1.chg hc (fun e => e3 e)
  · rw [hby j hj]
    exact (h2 j hj).chg h.cel.lt hc hS
  · rw [← kdRow_set D hi x]
    exact h.dur.set_ i _
  · by_cases e : j = i
    · subst e; rw [updF_same]; exact hx
    · rw [updF_other _ _ e]; exact h.nums j hj
/-- The bytes alone have been stored into. -/
theorem IsKnown.updB (h : IsKnown w S k gb gd d size n D) {i : Nat} (hi : i < n) (x : SlotD) (B : Option Addr) (cb : Nat) (hd : x.dur = (D i).dur) (hb : BytesAt w S B cb x.bytes) (hx : x.dur ≤ x.bytes.length ∧ x.bytes.length ≤ x.size ∧ x.size = size) :
    IsKnown (w.setCell ⟨gb, i, none⟩ (.slice B x.bytes.length cb)) S k gb gd d size n (updF D i x) := by
  obtain ⟨bs, h1, h2⟩ := h.row
  obtain ⟨e1, e2, e3⟩ := h.ne
  obtain ⟨n1, n2, n3⟩ := h.ns
  have hc : Chg (fun q => q = gb) w (w.setCell ⟨gb, i, none⟩ (.slice B x.bytes.length cb)) := (Chg.refl (fun q => q = gb) w).setCell (p := ⟨gb, i, none⟩) (.inl rfl) _
  have hS : ∀ q, S q → ¬ q = gb := fun q hq e => n2 (by rw [← e]; exact hq)
  refine ⟨h.blk.chg hc (fun e => e1 e), ⟨updF bs i (B, cb), ?_, fun j hj => ?_⟩, ?_, h.ne, h.ns, h.cel.chg hc hS, fun j hj => ?_, h.sz⟩
  · rw [← kbRow_set D bs hi x (B, cb)]
    exact h1.set_ i _
  · by_cases e : j = i
    · subst e
      rw [updF_same, updF_same]
      exact hb.chg h.cel.lt hc hS
    · rw [updF_other _ _ e, updF_other _ _ e]
      exact (h2 j hj).chg h.cel.lt hc hS
  · rw [kdRow_congr (fun j hj => by
      by_cases e : j = i
      · subst e; rw [updF_same]; exact hd
      · rw [updF_other _ _ e])]
    exact h.dur.chg hc (fun e => e3 e.symm)
  · by_cases e : j = i
    · subst e; rw [updF_same]; exact hx
    · rw [updF_other _ _ e]; exact h.nums j hj
end
/-- As an object among others. -/
def knownOb (S : Nat → Prop) (k gb gd d size n : Nat) (D : Nat → SlotD) : Ob where
  P w := IsKnown w S k gb gd d size n D
  F := kfoot S k gb gd
  keep hc hF h := h.chg hc hF
  lt h q hq := h.lt q hq
theorem cellOb_known (S : Nat → Prop) (k gb gd d size n : Nat) (D : Nat → SlotD) : CellOb (knownOb S k gb gd d size n D) := fun w h q hq => by
  have h' : IsKnown w S k gb gd d size n D := h
  rcases hq with rfl | rfl | rfl | hq
  · exact ⟨_, h'.blk, rfl⟩
  · obtain ⟨bs, h1, _⟩ := h'.row
    exact ⟨_, h1, rfl⟩
  · exact ⟨_, h'.dur, rfl⟩
  · exact h'.cel q hq
end Go.Proofs.Ytelobbigpgfobaa

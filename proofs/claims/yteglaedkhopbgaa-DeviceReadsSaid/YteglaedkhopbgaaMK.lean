/-
  The plain law of a device's turns with a plan.
-/
import Derived.Test.YteglaedkhopbgaaMJ
namespace Go.Proofs.Yteglaedkhopbgaa
open Go.RowKit Go.Shelf
set_option linter.unusedVariables false
/-- A device that is down answers so, and stays as it is. -/
theorem down_one {X : DevD} (h : X.down = true) (z : Int) : oneVE X z = 13 ∧ SyncVX X z = X ∧ EraseVX X z = X := by
  have hc : chkE X z = 13 := by unfold chkE; rw [if_pos h]
  unfold oneVE SyncVX EraseVX
  rw [hc, if_neg (by omega), if_neg (by omega), if_neg (by omega)]
  exact ⟨rfl, rfl, rfl⟩
theorem down_app {X : DevD} (h : X.down = true) (z : Int) (b : List (BitVec 8)) : appVE X z b = 13 ∧ appVX X z b = X := by
  have hc : chkE X z = 13 := by unfold chkE; rw [if_pos h]
  unfold appVE appVX
  rw [hc, if_neg (by omega), if_neg (by omega)]
  exact ⟨rfl, rfl⟩
theorem down_do {X : DevD} (h : X.down = true) (a s b : BitVec 8) (i : Nat) : vdoE X a s b i = 13 ∧ vdoX X a s b i = X := by
  unfold vdoE vdoX
  by_cases ha : a.toNat % 8 < 5
  · rw [if_pos ha, if_pos ha]
    exact down_app h _ _
  · rw [if_neg ha, if_neg ha]
    obtain ⟨h1, h2, h3⟩ := down_one h (turnS X s : Int)
    refine ⟨h1, ?_⟩
    split
    · exact h3
    · exact h2
/-- The same device with a plan. -/
structure Armed (X Y : DevD) (n sz k : Nat) (dn : Bool) (keep : List Int) : Prop where
  peace : Peace X n sz
  n : Y.n = n
  D : Y.D = X.D
  up : Y.down = false
  ops : Y.ops = X.ops
  T : Y.T = some ⟨(k : Int), dn, keep⟩
  k1 : 1 ≤ k
theorem Armed.eq {X Y : DevD} {n sz k : Nat} {dn : Bool} {keep : List Int} (h : Armed X Y n sz k dn keep) : Y = { X with T := some ⟨(k : Int), dn, keep⟩ } := by
  obtain ⟨hp, h1, h2, h3, h4, h5, h6⟩ := h
  obtain ⟨p1, p2, p3, _, _⟩ := hp
  cases X
  cases Y
  dsimp only at *
  subst h1 h2 h3 h4 h5 p1 p2 p3
  rfl
/-- What a tick makes of an armed device. -/
theorem armed_op {X Y : DevD} {n sz k : Nat} {dn : Bool} {keep : List Int} (h : Armed X Y n sz k dn keep) (f : (Nat → SlotD) → (Nat → SlotD)) (g : Bool → Bool) :
    (2 ≤ k ∧ opE Y = 0 ∧ opX Y f g = { X with D := f X.D, T := some ⟨((k - 1 : Nat) : Int), dn, keep⟩, ops := X.ops + 1 }) ∨
      (k = 1 ∧ opE Y = 13 ∧ opX Y f g = { X with D := crashD keep (if g dn = true then f X.D else X.D), T := none, ops := X.ops + 1, down := true }) := by
  have hk := h.k1
  have e := h.eq
  have hup := h.peace.up
  by_cases h2 : 2 ≤ k
  · have ht : tickB Y.T = false := by rw [h.T]; show decide (¬ 0 < (k : Int) - 1) = false; simp; omega
    refine .inl ⟨h2, by unfold opE; rw [ht]; rfl, ?_⟩
    rw [opX_no ht]
    unfold midX
    have hT : tickP Y.T = some ⟨((k - 1 : Nat) : Int), dn, keep⟩ := by
      rw [h.T]
      show (if 0 < (k : Int) - 1 then some (⟨(k : Int) - 1, dn, keep⟩ : PlanD) else none) = _
      rw [if_pos (by omega)]
      congr 2
      omega
    rw [hT, h.D, h.ops, h.n, h.up, ← h.peace.hn, ← hup]
  · have hk1 : k = 1 := by omega
    subst hk1
    have ht : tickB Y.T = true := by rw [h.T]; rfl
    refine .inr ⟨rfl, by unfold opE; rw [ht]; rfl, ?_⟩
    rw [opX_yes ht]
    unfold midX
    have hT : tickP Y.T = none := by rw [h.T]; rfl
    rw [hT, h.T, h.D, h.ops, h.n, ← h.peace.hn]
    rfl
theorem Armed.chk {X Y : DevD} {n sz k : Nat} {dn : Bool} {keep : List Int} (h : Armed X Y n sz k dn keep) (s : Nat) (hs : s < n + 2) : chkE Y (s : Int) = 0 := by
  unfold chkE
  rw [if_neg (by rw [h.up]; exact Bool.false_ne_true), if_pos ⟨by omega, by rw [h.n]; omega⟩]
/-- What the crash in a turn leaves of the disk. -/
def turnCr (n : Nat) (D : Nat → SlotD) (a s b : BitVec 8) (i : Nat) (dn : Bool) : Nat → SlotD :=
  if a.toNat % 8 < 5 then appD D (s.toNat % (n + 2)) (mvD b i) else if a.toNat % 8 = 7 then (if dn = true then eraseD D (s.toNat % (n + 2)) else D) else D
/-- A turn of an armed device. -/
theorem armed_do {X Y : DevD} {n sz k : Nat} {dn : Bool} {keep : List Int} (h : Armed X Y n sz k dn keep) (a s b : BitVec 8) (i : Nat) :
    (¬ turnOk n X.D a s b i ∧ vdoE Y a s b i = 4 ∧ vdoX Y a s b i = Y) ∨
      (turnOk n X.D a s b i ∧ 2 ≤ k ∧ vdoE Y a s b i = 0 ∧ Armed (vdoX X a s b i) (vdoX Y a s b i) n sz (k - 1) dn keep) ∨
      (turnOk n X.D a s b i ∧ k = 1 ∧ vdoE Y a s b i = 13 ∧ vdoX Y a s b i = { X with D := crashD keep (turnCr n X.D a s b i dn), T := none, ops := X.ops + 1, down := true }) := by
  have hsl : turnS Y s = s.toNat % (n + 2) := by unfold turnS; rw [h.n]
  have hlt : turnS Y s < n + 2 := by rw [hsl]; exact Nat.mod_lt _ (by omega)
  have hc := h.chk _ hlt
  have hcalm := calm_do h.peace a s b i
  have hnx := calm_next h.peace a s b i
  have hk := h.k1
  have fin : ∀ (f : (Nat → SlotD) → (Nat → SlotD)) (g : Bool → Bool), turnOk n X.D a s b i → vdoE Y a s b i = opE Y → vdoX Y a s b i = opX Y f g → f X.D = turnF n X.D a s b i → (if g dn = true then f X.D else X.D) = turnCr n X.D a s b i dn →
      (turnOk n X.D a s b i ∧ 2 ≤ k ∧ vdoE Y a s b i = 0 ∧ Armed (vdoX X a s b i) (vdoX Y a s b i) n sz (k - 1) dn keep) ∨
      (turnOk n X.D a s b i ∧ k = 1 ∧ vdoE Y a s b i = 13 ∧ vdoX Y a s b i = { X with D := crashD keep (turnCr n X.D a s b i dn), T := none, ops := X.ops + 1, down := true }) := by
    intro f g hok h1 h2 h3 h4
    have hX : vdoX X a s b i = { X with D := turnF n X.D a s b i, ops := X.ops + 1 } := by
      rcases hcalm with ⟨_, _, e⟩ | ⟨e, _⟩
      · exact e
      · exact absurd hok e
    rcases armed_op h f g with ⟨k2, e1, e2⟩ | ⟨k2, e1, e2⟩
    · refine .inl ⟨hok, k2, by rw [h1, e1], ?_⟩
      rw [h2, e2, h3]
      refine ⟨hnx, h.peace.hn, by rw [hX], h.peace.up, by rw [hX], rfl, by omega⟩
    · refine .inr ⟨hok, k2, by rw [h1, e1], ?_⟩
      rw [h2, e2, h4]
  by_cases ha : a.toNat % 8 < 5
  · have hE : vdoE Y a s b i = appVE Y (turnS Y s : Nat) (mvD b i) := by unfold vdoE; rw [if_pos ha]
    have hV : vdoX Y a s b i = appVX Y (turnS Y s : Nat) (mvD b i) := by unfold vdoX; rw [if_pos ha]
    by_cases hf : (X.D (s.toNat % (n + 2))).bytes.length + (mvD b i).length ≤ (X.D (s.toNat % (n + 2))).size
    · refine .inr (fin (fun D => appD D (s.toNat % (n + 2)) (mvD b i)) (fun _ => true) (fun _ => hf) ?_ ?_ ?_ ?_)
      · rw [hE]; unfold appVE; rw [if_pos hc, Int.toNat_natCast, hsl, h.D, if_pos hf]
      · rw [hV]; unfold appVX; rw [if_pos hc, Int.toNat_natCast, hsl, h.D, if_pos hf]
      · unfold turnF; rw [if_pos ha]
      · unfold turnCr; rw [if_pos ha, if_pos rfl]
    · refine .inl ⟨fun hh => hf (hh ha), ?_, ?_⟩
      · rw [hE]; unfold appVE; rw [if_pos hc, Int.toNat_natCast, hsl, h.D, if_neg hf]
      · rw [hV]; unfold appVX; rw [if_pos hc, Int.toNat_natCast, hsl, h.D, if_neg hf]
  · have hE : vdoE Y a s b i = oneVE Y (turnS Y s : Nat) := by unfold vdoE; rw [if_neg ha]
    have hE2 : oneVE Y (turnS Y s : Nat) = opE Y := by unfold oneVE; rw [if_pos hc]
    by_cases h7 : a.toNat % 8 = 7
    · have hV : vdoX Y a s b i = EraseVX Y (turnS Y s : Nat) := by unfold vdoX; rw [if_neg ha, if_pos h7]
      refine .inr (fin (fun D => eraseD D (s.toNat % (n + 2))) id (fun hh => absurd hh ha) (hE.trans hE2) ?_ ?_ ?_)
      · rw [hV]; unfold EraseVX; rw [if_pos hc, Int.toNat_natCast, hsl]
      · unfold turnF; rw [if_neg ha, if_pos h7]
      · unfold turnCr; rw [if_neg ha, if_pos h7]; rfl
    · have hV : vdoX Y a s b i = SyncVX Y (turnS Y s : Nat) := by unfold vdoX; rw [if_neg ha, if_neg h7]
      refine .inr (fin (fun D => syncD D (s.toNat % (n + 2))) (fun _ => false) (fun hh => absurd hh ha) (hE.trans hE2) ?_ ?_ ?_)
      · rw [hV]; unfold SyncVX; rw [if_pos hc, Int.toNat_natCast, hsl]
      · unfold turnF; rw [if_neg ha, if_neg h7]
      · unfold turnCr; rw [if_neg ha, if_neg h7, if_neg (by simp)]
/-- A device with a plan, whatever else. -/
structure Arm1 (Y : DevD) (n k ops : Nat) : Prop where
  n : Y.n = n
  up : Y.down = false
  T : ∃ dn keep, Y.T = some ⟨(k : Int), dn, keep⟩
  k1 : 1 ≤ k
  ops : Y.ops = ops
/-- A device without one. -/
structure Free1 (Y : DevD) (n : Nat) : Prop where
  n : Y.n = n
  up : Y.down = false
  T : Y.T = none
theorem syncD_bytes (D : Nat → SlotD) (i j : Nat) : (syncD D i j).bytes = (D j).bytes := by
  unfold syncD
  rcases updF_or D i j ⟨(D i).size, (D i).bytes, (D i).bytes.length⟩ with ⟨e, rfl⟩ | ⟨e, _⟩
  · rw [e]
  · rw [e]
theorem strs_congr {D D' : Nat → SlotD} {n : Nat} (h : ∀ i, i < n → (D' i).bytes = (D i).bytes) : strs D' n = strs D n := by
  unfold strs
  apply List.map_congr_left
  intro i hi
  rw [h i (List.mem_range.1 hi)]
theorem arm1_sync {Y : DevD} {n k ops s : Nat} (h : Arm1 Y n k ops) (hs : s < n + 2) :
    (2 ≤ k ∧ oneVE Y (s : Int) = 0 ∧ Arm1 (SyncVX Y (s : Int)) n (k - 1) (ops + 1)) ∨ (k = 1 ∧ oneVE Y (s : Int) = 13 ∧ (SyncVX Y (s : Int)).down = true ∧ (SyncVX Y (s : Int)).n = n ∧ (SyncVX Y (s : Int)).T = none ∧ (SyncVX Y (s : Int)).ops = ops + 1) := by
  obtain ⟨dn, keep, hT⟩ := h.T
  have hk := h.k1
  have hc : chkE Y (s : Int) = 0 := by
    unfold chkE
    rw [if_neg (by rw [h.up]; exact Bool.false_ne_true), if_pos ⟨by omega, by rw [h.n]; omega⟩]
  unfold oneVE SyncVX
  rw [if_pos hc, if_pos hc]
  by_cases h2 : 2 ≤ k
  · have ht : tickB Y.T = false := by rw [hT]; show decide (¬ 0 < (k : Int) - 1) = false; simp; omega
    refine .inl ⟨h2, by unfold opE; rw [ht]; rfl, ?_⟩
    rw [opX_no ht]
    refine ⟨h.n, h.up, ⟨dn, keep, ?_⟩, by omega, by show Y.ops + 1 = _; rw [h.ops]⟩
    show tickP Y.T = _
    rw [hT]
    show (if 0 < (k : Int) - 1 then some (⟨(k : Int) - 1, dn, keep⟩ : PlanD) else none) = _
    rw [if_pos (by omega)]
    congr 2
    omega
  · have hk1 : k = 1 := by omega
    subst hk1
    have ht : tickB Y.T = true := by rw [hT]; rfl
    refine .inr ⟨rfl, by unfold opE; rw [ht]; rfl, ?_⟩
    rw [opX_yes ht]
    exact ⟨rfl, h.n, by show tickP Y.T = none; rw [hT]; rfl, by show Y.ops + 1 = _; rw [h.ops]⟩
theorem free1_sync {Y : DevD} {n s : Nat} (h : Free1 Y n) (hs : s < n + 2) : oneVE Y (s : Int) = 0 ∧ Free1 (SyncVX Y (s : Int)) n ∧ ∀ i, ((SyncVX Y (s : Int)).D i).bytes = (Y.D i).bytes := by
  have hc : chkE Y (s : Int) = 0 := by
    unfold chkE
    rw [if_neg (by rw [h.up]; exact Bool.false_ne_true), if_pos ⟨by omega, by rw [h.n]; omega⟩]
  have ht : tickB Y.T = false := by rw [h.T]; rfl
  unfold oneVE SyncVX
  rw [if_pos hc, if_pos hc, opX_no ht]
  refine ⟨by unfold opE; rw [ht]; rfl, ⟨h.n, h.up, by show tickP Y.T = none; rw [h.T]; rfl⟩, fun i => ?_⟩
  exact syncD_bytes _ _ _
end Go.Proofs.Yteglaedkhopbgaa

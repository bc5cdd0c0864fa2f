/-
  The plain laws of the slots' reserve and parts: how many slots are free behind a turn; the slots of all states are all slots, each once. No program in sight. No condition.
-/
import Derived.Test.YtalonikiljcpfaaDoorTabSame
import Derived.Test.YtalonikiljcpfaaDoorTabLaw
namespace Go.Proofs.YtalonikiljcpfaaDoor
open Go.RowKit
set_option linter.unusedVariables false
/-- The least free slot, if there is one. -/
def leastV (T : List Nat) : Int := if 0 < cnt T 0 then (firstIn T 0 : Int) else -1
theorem do_free (T : List Nat) (r : Nat) (a s : BitVec 8) (hT : 1 ≤ T.length) : cnt (doT T r a s) 0 ≤ cnt T 0 + 1 ∧ cnt T 0 ≤ cnt (doT T r a s) 0 + 1 := by
  rw [cnt_count, cnt_count]
  rcases do_law T r a s hT with ⟨_, e⟩ | ⟨_, fr, to, h1, e, _⟩
  · rw [e]; omega
  · obtain ⟨hv, e2⟩ := List.getElem?_eq_some_iff.1 h1
    rw [e, List.count_set hv]
    have : (if T[doV T r a s] == 0 then 1 else 0) ≤ T.count 0 := by
      split
      · rename_i h
        exact List.count_pos_iff.2 (by have h' : T[doV T r a s] = 0 := by simpa using h
                                       rw [← h']; exact List.getElem_mem _)
      · omega
    have h2 : (if T[doV T r a s] == 0 then 1 else 0) ≤ 1 := by split <;> omega
    have h3 : (if to == 0 then 1 else 0) ≤ 1 := by split <;> omega
    omega
theorem take_free (T : List Nat) (s : Nat) (hs : s ≠ 0) (h : 0 < cnt T 0) : cnt (T.set (firstIn T 0) s) 0 + 1 = cnt T 0 := by
  obtain ⟨hv, e⟩ := firstIn_lt h
  rw [cnt_count] at h
  rw [cnt_count, cnt_count, List.count_set hv, e]
  have h3 : (s == 0) = false := by simpa using hs
  rw [h3]
  simp
  omega
/-- What of the slots has been seen: those of the states below s, and some of s. -/
def seenL (T : List Nat) (s : Nat) (pre : List Nat) : List Bool := (List.range T.length).map fun i => decide (T.getD i 0 < s) || decide (i ∈ pre)
theorem seenL_length (T : List Nat) (s : Nat) (pre : List Nat) : (seenL T s pre).length = T.length := by simp [seenL]
theorem seenL_zero (T : List Nat) : seenL T 0 [] = List.replicate T.length false := by
  unfold seenL
  apply List.ext_getElem
  · simp
  · intro i h1 h2
    simp
theorem seenL_set (T : List Nat) (s : Nat) (pre : List Nat) (x : Nat) : (seenL T s pre).set x true = seenL T s (pre ++ [x]) := by
  unfold seenL
  apply List.ext_getElem
  · simp
  · intro i h1 h2
    rw [List.getElem_set]
    by_cases e : x = i
    · subst e
      simp
    · rw [if_neg e]
      have e' : ¬ i = x := fun h => e h.symm
      simp [e']
theorem seenL_new (T : List Nat) (s x : Nat) (hx : inL (memb T s) x = true) : (seenL T s (slotsTo (memb T s) x))[x]? = some false := by
  have hl := inL_lt hx
  rw [memb_length] at hl
  rw [memb_at hl] at hx
  have hx' : T[x] = s := of_decide_eq_true hx
  unfold seenL
  rw [List.getElem?_map, List.getElem?_range hl]
  have h1 : T.getD x 0 = s := by rw [List.getD_eq_getElem?_getD, List.getElem?_eq_getElem hl, Option.getD_some, hx']
  have h2 : x ∉ slotsTo (memb T s) x := fun h => by
    unfold slotsTo at h
    have := (List.mem_range.1 (List.mem_filter.1 h).1)
    omega
  show some (decide (T.getD x 0 < s) || decide (x ∈ slotsTo (memb T s) x)) = some false
  rw [h1, decide_eq_false h2, decide_eq_false (by omega)]
  rfl
theorem seenL_next (T : List Nat) (s : Nat) : seenL T s (slotsOf (memb T s)) = seenL T (s + 1) [] := by
  unfold seenL
  apply List.map_congr_left
  intro i hi
  have hl := List.mem_range.1 hi
  have h1 : T.getD i 0 = T[i] := by rw [List.getD_eq_getElem?_getD, List.getElem?_eq_getElem hl, Option.getD_some]
  have h2 : i ∈ slotsOf (memb T s) ↔ T[i] = s := by
    rw [slotsOf_mem, memb_length, memb_at hl]
    simp [hl]
  rw [h1]
  have h3 : decide (i ∈ slotsOf (memb T s)) = decide (T[i] = s) := decide_eq_decide.2 h2
  rw [h3]
  simp only [List.not_mem_nil, decide_false, Bool.or_false]
  rw [← Bool.decide_or]
  exact decide_eq_decide.2 (by omega)
/-- The last, and the first, of some slots. -/
def lastI (pre : List Nat) : Int := match pre.getLast? with
  | none => -1
  | some x => (x : Int)
def firstI (pre : List Nat) : Int := match pre.head? with
  | none => -1
  | some x => (x : Int)
theorem lastI_nil : lastI [] = -1 := rfl
theorem firstI_nil : firstI [] = -1 := rfl
theorem lastI_snoc (pre : List Nat) (x : Nat) : lastI (pre ++ [x]) = (x : Int) := by simp [lastI]
theorem firstI_snoc (pre : List Nat) (x : Nat) : firstI (pre ++ [x]) = if firstI pre < 0 then (x : Int) else firstI pre := by
  cases pre with
  | nil => simp [firstI]
  | cons y l =>
    have h : firstI (y :: l) = (y : Int) := rfl
    have h2 : firstI (y :: l ++ [x]) = (y : Int) := rfl
    rw [h, h2, if_neg (by omega)]
theorem lastI_lt (L : List Bool) (x : Nat) : lastI (slotsTo L x) < (x : Int) := by
  unfold lastI
  cases h : (slotsTo L x).getLast? with
  | none => show (-1 : Int) < _; omega
  | some y =>
    have hm := List.mem_of_getLast? h
    unfold slotsTo at hm
    have := List.mem_range.1 (List.mem_filter.1 hm).1
    show (y : Int) < _
    omega
theorem lastI_bd (pre : List Nat) (n : Nat) (h : ∀ x, x ∈ pre → x < n) : -1 ≤ lastI pre ∧ lastI pre < (n : Int) ∨ lastI pre = -1 := by
  unfold lastI
  cases e : pre.getLast? with
  | none => exact .inr rfl
  | some y => have := h y (List.mem_of_getLast? e); left; show -1 ≤ (y : Int) ∧ (y : Int) < _; omega
theorem firstI_all (T : List Nat) (s : Nat) : firstI (slotsOf (memb T s)) = if 0 < cnt T s then (firstIn T s : Int) else -1 := by
  unfold firstI firstIn cnt
  cases slotsOf (memb T s) with
  | nil => rfl
  | cons v l => rfl
/-- How many slots are in the states below s. -/
def cntTo (T : List Nat) (s : Nat) : Nat := T.countP fun x => decide (x < s)
theorem cntTo_zero (T : List Nat) : cntTo T 0 = 0 := by simp [cntTo]
theorem cntTo_succ (T : List Nat) (s : Nat) : cntTo T (s + 1) = cntTo T s + cnt T s := by
  rw [cnt_count]
  unfold cntTo
  induction T with
  | nil => rfl
  | cons x T ih =>
    rw [List.countP_cons, List.countP_cons, List.count_cons, ih]
    by_cases h1 : x < s
    · have h2 : ¬ x = s := by omega
      have h3 : x < s + 1 := by omega
      simp [h1, h2, h3]
      omega
    · by_cases h2 : x = s
      · subst h2
        simp
        omega
      · have h3 : ¬ x < s + 1 := by omega
        simp [h1, h2, h3]
theorem cntTo_all (T : List Nat) (h : ∀ x, x ∈ T → x < 5) : cntTo T 5 = T.length := by
  unfold cntTo
  exact List.countP_eq_length.2 (fun x hx => decide_eq_true (h x hx))
theorem cntTo_le (T : List Nat) (s : Nat) : cntTo T s ≤ T.length := List.countP_le_length
/-- What taking a slot for updates answers. -/
theorem res_active (T : List Nat) (r : Nat) (a s : BitVec 8) (hk : a.toNat % 8 = 0 ∨ a.toNat % 8 = 1) :
    (0 < cnt T 1 ∧ doE T r a s = 6) ∨ (cnt T 1 = 0 ∧ cnt T 0 ≤ r ∧ doE T r a s = 11) ∨ (cnt T 1 = 0 ∧ r < cnt T 0 ∧ doE T r a s = 0 ∧ leastV T = (doV T r a s : Int) ∧ r ≤ cnt (doT T r a s) 0) := by
  have h1 : doE T r a s = takeE T 1 r 11 := by unfold doE; rcases hk with e | e <;> rw [e] <;> rfl
  have h2 : doV T r a s = takeV T 1 r := by unfold doV; rcases hk with e | e <;> rw [e] <;> rfl
  have h3 : doT T r a s = takeT T 1 r := by unfold doT; rcases hk with e | e <;> rw [e] <;> rfl
  rw [h1, h2, h3]
  unfold takeE takeV takeT leastV
  by_cases e1 : 0 < cnt T 1
  · rw [if_pos e1]; exact .inl ⟨e1, rfl⟩
  · rw [if_neg e1, if_neg e1, if_neg e1]
    by_cases e2 : cnt T 0 ≤ r
    · rw [if_pos e2]; exact .inr (.inl ⟨by omega, e2, rfl⟩)
    · have h0 : 0 < cnt T 0 := by omega
      rw [if_neg e2, if_neg e2, if_neg e2, if_pos h0]
      have := take_free T 1 (by omega) h0
      exact .inr (.inr ⟨by omega, by omega, rfl, rfl, by omega⟩)
/-- What taking a slot for an output answers. -/
theorem res_output (T : List Nat) (r : Nat) (a s : BitVec 8) (hk : a.toNat % 8 = 2) :
    (0 < cnt T 4 ∧ doE T r a s = 6) ∨ (cnt T 4 = 0 ∧ cnt T 0 = 0 ∧ doE T r a s = 4) ∨ (cnt T 4 = 0 ∧ 0 < cnt T 0 ∧ doE T r a s = 0 ∧ leastV T = (doV T r a s : Int)) := by
  have h1 : doE T r a s = takeE T 4 0 4 := by unfold doE; rw [hk] <;> rfl
  have h2 : doV T r a s = takeV T 4 0 := by unfold doV; rw [hk] <;> rfl
  rw [h1, h2]
  unfold takeE takeV leastV
  by_cases e1 : 0 < cnt T 4
  · rw [if_pos e1]; exact .inl ⟨e1, rfl⟩
  · rw [if_neg e1, if_neg e1]
    by_cases e2 : cnt T 0 ≤ 0
    · rw [if_pos e2]; exact .inr (.inl ⟨by omega, by omega, rfl⟩)
    · have h0 : 0 < cnt T 0 := by omega
      rw [if_neg e2, if_neg e2, if_pos h0]
      exact .inr (.inr ⟨by omega, h0, rfl, rfl⟩)
theorem least_none (T : List Nat) (h : slotsOf (memb T 0) = []) : leastV T = -1 := by
  unfold leastV cnt
  rw [h]
  rfl
theorem least_pre (T : List Nat) (x : Nat) (h : [x] <+: slotsOf (memb T 0)) : leastV T = (x : Int) := by
  obtain ⟨t, e⟩ := h
  unfold leastV firstIn cnt
  rw [← e]
  simp
/-- The same in memory. -/
def seenA (T : List Nat) (s : Nat) (pre : List Nat) : Array Value := ((seenL T s pre).map Value.bool).toArray
theorem seenA_zero (T : List Nat) (n : Nat) (h : T.length = n) : (bvals (List.replicate n false)).toArray = seenA T 0 [] := by
  unfold seenA
  rw [seenL_zero, h]
  rfl
theorem seenA_set (T : List Nat) (s : Nat) (pre : List Nat) (x : Nat) : (seenA T s pre).setIfInBounds x (.bool true) = seenA T s (pre ++ [x]) := by
  unfold seenA
  rw [← seenL_set]
  simp [List.map_set]
theorem seenA_new (T : List Nat) (s x : Nat) (hx : inL (memb T s) x = true) : (seenA T s (slotsTo (memb T s) x))[x]? = some (.bool false) := by
  unfold seenA
  rw [List.getElem?_toArray, List.getElem?_map, seenL_new T s x hx]
  rfl
theorem seenA_next (T : List Nat) (s : Nat) : seenA T s (slotsOf (memb T s)) = seenA T (s + 1) [] := by
  unfold seenA
  rw [seenL_next]
theorem firstIn_none (T : List Nat) (s : Nat) (h : ¬ 0 < cnt T s) : firstIn T s = 0 := by
  unfold firstIn
  unfold cnt at h
  cases e : slotsOf (memb T s) with
  | nil => rfl
  | cons v l => rw [e] at h; simp at h
theorem in_state (T : List Nat) (s x : Nat) (hx : inL (memb T s) x = true) : ∃ h : x < T.length, T[x] = s := by
  have hl := inL_lt hx
  rw [memb_length] at hl
  rw [memb_at hl] at hx
  exact ⟨hl, of_decide_eq_true hx⟩
/-- What Only answers. -/
def onlyV (T : List Nat) (s : Nat) : Int := if s = 1 ∨ s = 3 ∨ s = 4 then (firstIn T s : Int) else 0
def onlyB (T : List Nat) (s : Nat) : Bool := if s = 1 ∨ s = 3 ∨ s = 4 then decide (0 < cnt T s) else false
theorem tonly_any {w : World} {g r : Nat} {p : Nat → Nat} {T : List Nat} (h : IsTab w g p r T) (ht : TabIn w) (s : Nat) :
    Calls Tryd.prog 27 #[.pointer (some ⟨g, 0, none⟩), .int .i64 (s : Int)] w fun e w' => e = .returned (.tuple #[.int .i64 (onlyV T s), .bool (onlyB T s)]) ∧ w = w' := by
  unfold onlyV onlyB
  by_cases hs : s = 1 ∨ s = 3 ∨ s = 4
  · rw [if_pos hs, if_pos hs]
    exact tonly h s hs ht _ _ (next_firstIn T s)
  · rw [if_neg hs, if_neg hs]
    exact tonly_no _ w (s : Int) (by omega) (by omega) (by omega)
/-- What is seen of a state, all in all. -/
theorem only_cases (T : List Nat) (s : Nat) (hs : s < 5) :
    ((s = 0 ∨ s = 2) ∧ onlyV T s = 0 ∧ onlyB T s = false ∧ (∃ f : Nat, firstI (slotsOf (memb T s)) = (f : Int))) ∨ ((s = 1 ∨ s = 3 ∨ s = 4) ∧ ∃ f : Nat, onlyV T s = (f : Int) ∧ onlyB T s = true ∧ firstI (slotsOf (memb T s)) = (f : Int)) ∨ (onlyV T s = 0 ∧ onlyB T s = false ∧ firstI (slotsOf (memb T s)) = -1) := by
  rw [firstI_all]
  unfold onlyV onlyB
  by_cases h0 : 0 < cnt T s
  · rw [if_pos h0]
    by_cases h1 : s = 1 ∨ s = 3 ∨ s = 4
    · rw [if_pos h1, if_pos h1, decide_eq_true h0]
      exact .inr (.inl ⟨h1, _, rfl, rfl, rfl⟩)
    · rw [if_neg h1, if_neg h1]
      exact .inl ⟨by omega, rfl, rfl, _, rfl⟩
  · rw [if_neg h0, firstIn_none T s h0, decide_eq_false h0]
    refine .inr (.inr ⟨?_, ?_, rfl⟩)
    · split <;> rfl
    · split <;> rfl
theorem Blk.c0 {w : World} {g : Nat} {t : TypeId} {v : Value} (h : Blk w g t #[v]) : w.cell? ⟨g, 0, none⟩ = some v := h.cell 0
theorem Sep.setMid {B : Nat} {w0 w : World} {l₁ l₂ : List Ob} {g : Nat} {t : TypeId} {cs : Array Value} (h : Sep B w0 w (l₁ ++ blkOb g t cs :: l₂)) (i : Nat) (u : Value) : Sep B w0 (w.setCell ⟨g, i, none⟩ u) (l₁ ++ blkOb g t (cs.setIfInBounds i u) :: l₂) :=
  ((h.perm List.perm_middle).setBlk i u).perm List.perm_middle.symm
end Go.Proofs.YtalonikiljcpfaaDoor

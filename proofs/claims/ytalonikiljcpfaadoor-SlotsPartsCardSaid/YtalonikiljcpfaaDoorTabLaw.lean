/-
  The plain law of the slots' turns: each changes one slot at most, from a state and to a state that the chapter names; at most one slot is active, one the victim, one the output. No program in sight. No condition.
-/
import Derived.Test.YtalonikiljcpfaaDoorTabDo
namespace Go.Proofs.YtalonikiljcpfaaDoor
open Go.RowKit
set_option linter.unusedVariables false
theorem list_map_range (T : List Nat) : (List.range T.length).map (fun i => T.getD i 0) = T := by
  apply List.ext_getElem?
  intro i
  by_cases h : i < T.length
  · simp [h]
  · simp [h]
theorem cnt_count (T : List Nat) (s : Nat) : cnt T s = T.count s := by
  have h1 : cnt T s = (List.range T.length).countP (fun i => T.getD i 0 == s) := by
    unfold cnt slotsOf
    rw [memb_length, ← List.countP_eq_length_filter]
    apply List.countP_congr
    intro i hi
    have hi' := List.mem_range.1 hi
    rw [memb_at hi', List.getD_eq_getElem?_getD, List.getElem?_eq_getElem hi', Option.getD_some]
    simp
  have h2 : T.count s = ((List.range T.length).map (fun i => T.getD i 0)).count s := by rw [list_map_range]
  rw [h1, h2, List.count, List.countP_map]
  rfl
/-- At most one slot is active, one the victim, one the output. -/
def UniqT (T : List Nat) : Prop := T.count 1 ≤ 1 ∧ T.count 3 ≤ 1 ∧ T.count 4 ≤ 1
/-- Which changes of states a kind of turn may make. -/
def goodC (k fr to : Nat) : Prop := ((k = 0 ∨ k = 1) ∧ fr = 0 ∧ to = 1) ∨ (k = 2 ∧ fr = 0 ∧ to = 4) ∨ (k = 3 ∧ (fr = 1 ∨ fr = 4) ∧ to = 2) ∨ (k = 4 ∧ fr = 2 ∧ to = 3) ∨ ((k = 5 ∨ k = 6) ∧ (fr = 2 ∨ fr = 3) ∧ to = 0) ∨ (k = 7 ∧ fr = 0 ∧ to = 2)
/-- What a turn does. -/
def DoLaw (T : List Nat) (k : Nat) (v : Nat) (e : Int) (T' : List Nat) : Prop :=
  (e ≠ 0 ∧ T' = T) ∨ (e = 0 ∧ ∃ fr to, T[v]? = some fr ∧ T' = T.set v to ∧ fr ≠ to ∧ goodC k fr to ∧ (to = 1 → T.count 1 = 0) ∧ (to = 3 → T.count 3 = 0) ∧ (to = 4 → T.count 4 = 0))
theorem take_law (T : List Nat) (s low k : Nat) (err : Int) (he : err ≠ 0) (hs : s = 1 ∨ s = 4) (hg : goodC k 0 s) : DoLaw T k (takeV T s low) (takeE T s low err) (takeT T s low) := by
  unfold takeV takeE takeT
  by_cases h1 : 0 < cnt T s
  · rw [if_pos h1, if_pos h1, if_pos h1]
    exact .inl ⟨by omega, rfl⟩
  · rw [if_neg h1, if_neg h1, if_neg h1]
    by_cases h2 : cnt T 0 ≤ low
    · rw [if_pos h2, if_pos h2, if_pos h2]
      exact .inl ⟨he, rfl⟩
    · rw [if_neg h2, if_neg h2, if_neg h2]
      obtain ⟨hv, hv2⟩ := firstIn_lt (T := T) (s := 0) (by omega)
      have h0 : T.count s = 0 := by rw [← cnt_count]; omega
      refine .inr ⟨rfl, 0, s, by rw [List.getElem?_eq_getElem hv, hv2], rfl, by omega, hg, fun e => by subst e; exact h0, fun e => by omega, fun e => by subst e; exact h0⟩
theorem chg_law (T : List Nat) (b : Nat → Bool) (to k j : Nat) (hto : to ≠ 1 ∧ to ≠ 4) (hj : j < T.length) (hb : ∀ fr, b fr = true → fr ≠ to ∧ goodC k fr to) : DoLaw T k j (chgE b to T (j : Int)) (chgT b to T (j : Int)) := by
  have hin : inT T (j : Int) := ⟨by omega, by omega⟩
  unfold chgE chgT
  rw [if_pos hin, if_pos hin, Int.toNat_natCast, List.getD_eq_getElem?_getD, List.getElem?_eq_getElem hj, Option.getD_some]
  by_cases h1 : b T[j] = true
  · rw [if_pos h1, if_pos h1]
    by_cases h2 : to = 3 ∧ 0 < cnt T 3
    · rw [if_pos h2, if_pos h2]
      exact .inl ⟨by omega, rfl⟩
    · rw [if_neg h2, if_neg h2]
      obtain ⟨g1, g2⟩ := hb _ h1
      refine .inr ⟨rfl, T[j], to, List.getElem?_eq_getElem hj, rfl, g1, g2, fun e => absurd e hto.1, fun e => ?_, fun e => absurd e hto.2⟩
      rw [← cnt_count]
      omega
  · rw [if_neg h1, if_neg h1]
    exact .inl ⟨by omega, rfl⟩
theorem do_law (T : List Nat) (r : Nat) (a s : BitVec 8) (hT : 1 ≤ T.length) : DoLaw T (a.toNat % 8) (doV T r a s) (doE T r a s) (doT T r a s) := by
  have hj : s.toNat % T.length < T.length := Nat.mod_lt _ (by omega)
  obtain ⟨k, hk⟩ : ∃ k, a.toNat % 8 = k := ⟨_, rfl⟩
  have hk8 : k < 8 := by omega
  unfold doV doE doT
  rw [hk]
  have hk' : k = 0 ∨ k = 1 ∨ k = 2 ∨ k = 3 ∨ k = 4 ∨ k = 5 ∨ k = 6 ∨ k = 7 := by omega
  rcases hk' with rfl | rfl | rfl | rfl | rfl | rfl | rfl | rfl
  · exact take_law T 1 r 0 11 (by omega) (.inl rfl) (by unfold goodC; omega)
  · exact take_law T 1 r 1 11 (by omega) (.inl rfl) (by unfold goodC; omega)
  · exact take_law T 4 0 2 4 (by omega) (.inr rfl) (by unfold goodC; omega)
  · exact chg_law T sealB 2 3 _ (by omega) hj (fun fr h => by simp [sealB] at h; unfold goodC; omega)
  · exact chg_law T chooseB 3 4 _ (by omega) hj (fun fr h => by simp [chooseB] at h; unfold goodC; omega)
  · exact chg_law T dropB 0 5 _ (by omega) hj (fun fr h => by simp [dropB] at h; unfold goodC; omega)
  · exact chg_law T dropB 0 6 _ (by omega) hj (fun fr h => by simp [dropB] at h; unfold goodC; omega)
  · exact chg_law T loadB 2 7 _ (by omega) hj (fun fr h => by simp [loadB] at h; unfold goodC; omega)
theorem count_set_le {T : List Nat} {v fr to s : Nat} (h : T[v]? = some fr) : (T.set v to).count s ≤ T.count s + (if to = s then 1 else 0) := by
  obtain ⟨hv, e⟩ := List.getElem?_eq_some_iff.1 h
  rw [List.count_set hv]
  by_cases e2 : to = s <;> simp [e2]
theorem uniq_do {T T' : List Nat} {k v : Nat} {e : Int} (h : DoLaw T k v e T') (hu : UniqT T) : UniqT T' := by
  rcases h with ⟨_, rfl⟩ | ⟨_, fr, to, h1, rfl, _, _, h4, h5, h6⟩
  · exact hu
  · obtain ⟨u1, u2, u3⟩ := hu
    have c1 := count_set_le (to := to) (s := 1) h1
    have c3 := count_set_le (to := to) (s := 3) h1
    have c4 := count_set_le (to := to) (s := 4) h1
    refine ⟨?_, ?_, ?_⟩
    · by_cases e : to = 1
      · rw [if_pos e, h4 e] at c1; omega
      · rw [if_neg e] at c1; omega
    · by_cases e : to = 3
      · rw [if_pos e, h5 e] at c3; omega
      · rw [if_neg e] at c3; omega
    · by_cases e : to = 4
      · rw [if_pos e, h6 e] at c4; omega
      · rw [if_neg e] at c4; omega
theorem uniq_zero (n : Nat) : UniqT (List.replicate n 0) := by
  unfold UniqT
  simp [List.count_replicate]
end Go.Proofs.YtalonikiljcpfaaDoor

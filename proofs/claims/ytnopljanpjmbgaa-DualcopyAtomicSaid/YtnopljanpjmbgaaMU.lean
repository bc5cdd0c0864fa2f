/-
  The plain law of DualcopyAtomic: what the rounds of its loop keep, and what a round makes of it.
-/
import Derived.Test.YtnopljanpjmbgaaMP
namespace Go.Proofs.Ytnopljanpjmbgaa
open Go.RowKit Drum
set_option linter.unusedVariables false
/-- The superblock of an epoch, with a policy. -/
def stB (n sz : Nat) (re wk ke va e p : Int) : Bk := ⟨e, ⟨(n : Int), (sz : Int), re, wk, ke, va, p⟩⟩
/-- No crash is near. -/
def Far (T : Option PlanD) (k : Int) : Prop := T = none ∨ ∃ P, T = some P ∧ k ≤ P.at_
theorem Far.tick {T : Option PlanD} {k : Int} (h : Far T k) (hk : 2 ≤ k) : tickB T = false ∧ Far (tickP T) (k - 1) := by
  rcases h with rfl | ⟨P, rfl, h⟩
  · exact ⟨rfl, .inl rfl⟩
  · obtain ⟨h1, h2⟩ := tick_more (P := P) (by omega)
    exact ⟨h1, .inr ⟨_, h2, by show k - 1 ≤ P.at_ - 1; omega⟩⟩
theorem Far.tick3 {T : Option PlanD} {k : Int} (h : Far T k) (hk : 4 ≤ k) : tickB T = false ∧ tickB (tickP T) = false ∧ tickB (tickP (tickP T)) = false ∧ Far (tickP (tickP (tickP T))) (k - 3) := by
  obtain ⟨a1, a2⟩ := h.tick (by omega)
  obtain ⟨b1, b2⟩ := a2.tick (by omega)
  obtain ⟨c1, c2⟩ := b2.tick (by omega)
  refine ⟨a1, b1, c1, ?_⟩
  have e : k - 1 - 1 - 1 = k - 3 := by omega
  rwa [e] at c2
/-- What a round keeps. -/
structure AtI (n sz : Nat) (re wk ke va : Int) (i : Nat) (X : DevD) (e p : Int) : Prop where
  rd : Ready X n
  dur : Dur2 X n
  cur : Cur X n (stB n sz re wk ke va e p)
  ep : 2 ≤ e ∧ e ≤ 2 + (i : Int)
  far : Far X.T (1000 - 3 * (i : Int))
  ops : X.ops ≤ 6 + 3 * i
theorem armX_T {X : DevD} {a k : Int} {dn : Bool} (ha : 1 ≤ a ∧ a ≤ 1000) (hk : 0 ≤ k ∧ k ≤ 100) : armE a [k] = 0 ∧ armX X a dn [k] = { X with T := some ⟨a, dn, [k]⟩ } := by
  have hok : okPlan a [k] := ⟨⟨by omega, by omega⟩, ⟨by simp, by simp⟩, fun z hz => by rw [List.mem_singleton] at hz; subst hz; omega⟩
  refine ⟨if_pos hok, ?_⟩
  unfold armX
  rw [if_pos hok, if_neg (by omega)]
  unfold armP
  rw [if_pos (by omega)]
section
variable {n sz i : Nat} {re wk ke va e p : Int} {X : DevD}
theorem AtI.armed (h : AtI n sz re wk ke va i X e p) (T : Option PlanD) : Ready { X with T := T } n ∧ Dur2 { X with T := T } n ∧ Cur { X with T := T } n (stB n sz re wk ke va e p) :=
  ⟨⟨h.rd.hn, h.rd.up, h.rd.s0, h.rd.s1⟩, h.dur, ⟨h.cur.ok, h.cur.here, h.cur.there⟩⟩
/-- The superblock from before, read; and without a crash, the next one. -/
theorem at_free (h : AtI n sz re wk ke va i X e p) (hi : i < 20) {q : Int} (hq : q = 1 ∨ q = 2) :
    ∃ X2, advX X q = (0, stB n sz re wk ke va (e + 1) q, X2) ∧ readX X2 = (0, par (stB n sz re wk ke va (e + 1) q), stB n sz re wk ke va (e + 1) q) ∧ AtI n sz re wk ke va (i + 1) X2 (e + 1) q := by
  obtain ⟨t0, t1, t2, t3⟩ := h.far.tick3 (by omega)
  have he := h.ep
  obtain ⟨X2, a1, a2, a3, a4, a5, a6, _⟩ := adv_ok h.rd h.dur h.cur hq (show e < 1099511627776 by omega) t0 t1 t2
  have a6' : Cur X2 n (stB n sz re wk ke va (e + 1) q) := a6
  refine ⟨X2, a1, cur_read a2 a6', a2, a3, a6', by omega, ?_, by have := h.ops; omega⟩
  rw [a4]
  have e3 : 1000 - 3 * (i : Int) - 3 = 1000 - 3 * ((i + 1 : Nat) : Int) := by omega
  rwa [e3] at t3
/-- With a plan for the fourth operation, which a farther one replaces. -/
theorem at_four (h : AtI n sz re wk ke va i X e p) (hi : i < 20) {q : Int} (hq : q = 1 ∨ q = 2) (dn : Bool) (k : Int) (hk : 0 ≤ k ∧ k < 70) :
    armE 4 [k] = 0 ∧ armE 1000 [0] = 0 ∧ (armX X 4 dn [k]).ops ≤ 100000 ∧ ∃ X2, advX (armX X 4 dn [k]) q = (0, stB n sz re wk ke va (e + 1) q, X2) ∧ readX X2 = (0, par (stB n sz re wk ke va (e + 1) q), stB n sz re wk ke va (e + 1) q) ∧ AtI n sz re wk ke va (i + 1) (armX X2 1000 false [0]) (e + 1) q := by
  obtain ⟨k1, k2⟩ := armX_T (X := X) (a := 4) (k := k) (dn := dn) (by omega) (by omega)
  obtain ⟨m1, m2⟩ := h.armed (some ⟨4, dn, [k]⟩)
  have he := h.ep
  have ho := h.ops
  have hf : Far (some (⟨4, dn, [k]⟩ : PlanD)) 4 := .inr ⟨_, rfl, by show (4 : Int) ≤ 4; omega⟩
  obtain ⟨t0, t1, t2, t3⟩ := hf.tick3 (by omega)
  obtain ⟨X2, a1, a2, a3, a4, a5, a6, _⟩ := adv_ok (X := { X with T := some ⟨4, dn, [k]⟩ }) m1 m2.1 m2.2 hq (show e < 1099511627776 by omega) t0 t1 t2
  obtain ⟨k3, k4⟩ := armX_T (X := X2) (a := 1000) (k := 0) (dn := false) (by omega) (by omega)
  rw [k2]
  refine ⟨k1, k3, by show X.ops ≤ _; omega, X2, a1, cur_read a2 a6, ?_⟩
  have a5' : X2.ops = X.ops + 3 := a5
  rw [k4]
  exact ⟨⟨a2.hn, a2.up, a2.s0, a2.s1⟩, a3, ⟨a6.ok, a6.here, a6.there⟩, by omega, .inr ⟨_, rfl, by show 1000 - 3 * ((i + 1 : Nat) : Int) ≤ 1000; omega⟩, by show X2.ops ≤ _; omega⟩
/-- With a crash in one of the three operations. -/
theorem at_crash (h : AtI n sz re wk ke va i X e p) (hi : i < 20) {q : Int} (hq : q = 1 ∨ q = 2) (a : Int) (ha : 1 ≤ a ∧ a ≤ 3) (dn : Bool) (k : Int) (hk : 0 ≤ k ∧ k < 70) :
    armE a [k] = 0 ∧ (armX X a dn [k]).ops ≤ 100000 ∧ ∃ X2 e2 p2, advX (armX X a dn [k]) q = (13, bk0, X2) ∧ X2.down = true ∧ readX (restartX X2) = (0, par (stB n sz re wk ke va e2 p2), stB n sz re wk ke va e2 p2) ∧ ((e2 = e ∧ p2 = p) ∨ (e2 = e + 1 ∧ p2 = q)) ∧ AtI n sz re wk ke va (i + 1) (restartX X2) e2 p2 := by
  obtain ⟨k1, k2⟩ := armX_T (X := X) (a := a) (k := k) (dn := dn) (by omega) (by omega)
  obtain ⟨m1, m2⟩ := h.armed (some ⟨a, dn, [k]⟩)
  have he := h.ep
  have ho := h.ops
  obtain ⟨X2, a1, a2, a3, a4, a5, a6, a7, a8⟩ := adv_crash (X := { X with T := some ⟨a, dn, [k]⟩ }) m1 m2.1 m2.2 hq (show e < 1099511627776 by omega) ⟨a, dn, [k]⟩ rfl ha.1 ha.2
  have a5' : X2.ops ≤ X.ops + 3 := a5
  have hT : (restartX X2).T = none := a4
  rw [k2]
  refine ⟨k1, by show X.ops ≤ _; omega, X2, ?_⟩
  rcases a8 with a8 | ⟨a8, _⟩
  · exact ⟨e, p, a1, a2, cur_read a6 a8, .inl ⟨rfl, rfl⟩, a6, a7, a8, by omega, .inl hT, by show X2.ops ≤ _; omega⟩
  · have a8' : Cur (restartX X2) n (stB n sz re wk ke va (e + 1) q) := a8
    exact ⟨e + 1, q, a1, a2, cur_read a6 a8', .inr ⟨rfl, rfl⟩, a6, a7, a8', by omega, .inl hT, by show X2.ops ≤ _; omega⟩
end
end Go.Proofs.Ytnopljanpjmbgaa

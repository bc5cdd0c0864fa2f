/-
  What the slots laws' loops look at: the states that were kept. No condition.
-/
import Derived.Test.YtalonikiljcpfaaDoorTabTurns
namespace Go.Proofs.YtalonikiljcpfaaDoor
open Go.RowKit
set_option linter.unusedVariables false
section
variable {B : Nat} {w0 w w' : World} {os : List Ob} {T : List Nat}
theorem stOb_at {v : Value} (h : (stOb v T).P w) (n : Nat) (hn : T.length = n) : ∃ A c, v = .slice A n c ∧ n ≤ c ∧ c ≤ maxLen ∧ ∀ i, i < n → ∃ ad x, A = some ad ∧ T[i]? = some x ∧ ad.block < w.heap.size ∧ w.cell? (ad.add i) = some (.int .i64 ((x : Nat) : Int)) := by
  subst hn
  have h' : w.ownsRow 0 3 1 v T.length (nats T) := h
  obtain ⟨A, c, rfl, h1, h2, h3⟩ := own_slice h'
  refine ⟨A, c, rfl, h1, h2, fun i hi => ?_⟩
  obtain ⟨ad, u, e, hb, hx, hc⟩ := h3.at_ hi
  refine ⟨ad, T[i], e, List.getElem?_eq_getElem hi, hb, ?_⟩
  rw [hc]
  unfold nats at hx
  rw [List.getElem?_map, List.getElem?_eq_getElem hi] at hx
  exact hx.symm
theorem two_st {A1 A2 : Option Addr} {n q1 q2 : Nat} (h : Sep B w0 w os) (h1 : stOb (.slice A1 n q1) T ∈ os) (h2 : stOb (.slice A2 n q2) T ∈ os) (hn : T.length = n) :
    ∀ W, Below w.heap.size w W → ∀ i, i < n → ∃ ad1 ad2 x, A1 = some ad1 ∧ A2 = some ad2 ∧ W.cell? (ad1.add i) = some (.int .i64 x) ∧ W.cell? (ad2.add i) = some (.int .i64 x) := fun W hW i hi => by
  obtain ⟨B1, c1, e1, _, _, k1⟩ := stOb_at (h.get h1) n hn
  obtain ⟨B2, c2, e2, _, _, k2⟩ := stOb_at (h.get h2) n hn
  injection e1 with e1
  injection e2 with e2
  subst e1 e2
  obtain ⟨ad1, x1, r1, s1, l1, t1⟩ := k1 i hi
  obtain ⟨ad2, x2, r2, s2, l2, t2⟩ := k2 i hi
  rw [s1] at s2
  injection s2 with s2
  subst s2
  exact ⟨ad1, ad2, _, r1, r2, (hW.cell (p := ad1.add i) (by rw [block_of_add]; exact l1)).trans t1, (hW.cell (p := ad2.add i) (by rw [block_of_add]; exact l2)).trans t2⟩
end
end Go.Proofs.YtalonikiljcpfaaDoor

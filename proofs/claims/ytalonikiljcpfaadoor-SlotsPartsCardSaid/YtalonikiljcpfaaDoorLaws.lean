/-
  Laws of my own for the walk's operations: the builtins min and max on integers, whole. No condition.
-/
import Derived.Test.YtalonikiljcpfaaDoorMem
namespace Go.Proofs.YtalonikiljcpfaaDoor
open Go.RowKit
set_option linter.unusedVariables false
theorem wpList_min {P : Program} {ops : Array Oper} {rest : List Oper} {o : Oper} {a : Act} {w : World} {Q : Exit → Act → World → Prop} (hg : o.guard = none)
    (t : TypeId) (x y : Operand) (k : IntKind) (p q n : Int)
    (ho : o.op = .call { callee := .builtin .min, args := #[x, y], argTypes := #[t, t] }) (hx : a.eval x = .int k p) (hy : a.eval y = .int k q) (hn : (if q < p then q else p) = n)
    (h : wpList P ops Q rest (a.put o.dst (.int k n)) w) : wpList P ops Q (o :: rest) a w := by
  refine wpList_plain hg fun K hK => ?_
  have hK' := hK _ _ h
  unfold Oper.wp execOp
  simp only [ho, resolve, invoke, builtin, Sem.run_bind, Sem.run_pure, Result.andThen_ok, List.map_toArray, List.map_cons, List.map_nil, hx, hy]
  simp [go_sem]
  rw [hn]
  exact hK'
theorem wpList_max {P : Program} {ops : Array Oper} {rest : List Oper} {o : Oper} {a : Act} {w : World} {Q : Exit → Act → World → Prop} (hg : o.guard = none)
    (t : TypeId) (x y : Operand) (k : IntKind) (p q n : Int)
    (ho : o.op = .call { callee := .builtin .max, args := #[x, y], argTypes := #[t, t] }) (hx : a.eval x = .int k p) (hy : a.eval y = .int k q) (hn : (if p < q then q else p) = n)
    (h : wpList P ops Q rest (a.put o.dst (.int k n)) w) : wpList P ops Q (o :: rest) a w := by
  refine wpList_plain hg fun K hK => ?_
  have hK' := hK _ _ h
  unfold Oper.wp execOp
  simp only [ho, resolve, invoke, builtin, Sem.run_bind, Sem.run_pure, Result.andThen_ok, List.map_toArray, List.map_cons, List.map_nil, hx, hy]
  simp [go_sem]
  rw [hn]
  exact hK'
end Go.Proofs.YtalonikiljcpfaaDoor

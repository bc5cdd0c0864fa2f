/-
  'append(b, make([]byte, n)...)' and 'append(b, s...)' for bytes of a call's own, as laws for the walk. Condition: the lengths are small.
-/
import Derived.Test.YtbgahbeldnhloaaBytes
import Derived.Lib.AppendStr
namespace Go.Proofs.Ytbgahbeldnhloaa
open Go.RowKit
set_option linter.unusedVariables false
def zstr (m : Nat) : ByteArray := ⟨Array.replicate m 0⟩
theorem zstr_size (m : Nat) : (zstr m).size = m := by simp [zstr, ByteArray.size]
theorem zstr_cells (m : Nat) : Lib.strCells (zstr m) = u8s (zbytes m) := by
  simp [Lib.strCells, zstr, u8s, zbytes, u8v, n8_zero']
theorem zeroCells_u8 (m : Nat) : Builtin.zeroCells (Value.int .u8 0).cells m = (Lib.strCells (zstr m)).toArray := by
  apply Array.ext'
  simp [Builtin.zeroCells, Lib.strCells, zstr, Value.cells]
  apply List.ext_getElem
  · simp
  · intro i h1 h2; simp [Nat.mod_one]
section
variable {P : Program} (w : World)
theorem run_append_zeros_eq (t ti tu ty e : TypeId) (i : TypeInfo) (ht : P.underlying t = some (.slice e)) (hti : P.underlying ti = some (.int .i64)) (htu : P.underlying tu = some .string) (hi : P.info? e = some i)
    (hz : i.zero = some (.int .u8 0)) (hsize : i.size = 1) (hby : i.bytes = 1) (A : Option Addr) (n c m : Nat) (hm0' : 0 < m) (hm : n + m ≤ 1099511627776) :
    (Builtin.append_ #[t, ti] ty #[.slice A n c, .int .i64 (m : Int)]).run P w = (Builtin.append_ #[t, tu] ty #[.slice A n c, .string (zstr m)]).run P w := by
  have hf := fun W => Lib.run_firstCells_string (P := P) W 1 (zstr m)
  rw [zstr_size] at hf
  have hzc := zeroCells_u8 m
  have hwr : IntKind.i64.wrap (m : Int) = (m : Int) := by rw [IntWalk.i64_left]; exact IntWalk.wrap64_in _ (by omega)
  have h0 : ¬ ((m : Int) < 0) := by omega
  have h1 : ¬ (281474976710656 < (m : Int)) := by omega
  have h2 : ¬ (9223372036854775807 < ((n : Int) + (m : Int))) := by omega
  have hm0 : ¬ m = 0 := by omega
  have hm1 : ¬ ((m : Int) ≤ 0) := by omega
  by_cases hr : n + m ≤ c
  · simp [Builtin.append_, run_underlying ht, run_underlying hti, run_underlying htu, sizeOf, typeInfo, zeroValue, hi, hz, hsize, hby, Builtin.lenOf, zstr_size, asInt, asIntOf, hf, hwr, hr, hm0, h0, h1, hzc]
  · have hf2 := growslice_fits (need := n + m) (old := c) (bytes := 1) (by omega) (by omega)
    rw [Nat.mul_one] at hf2
    have h48 : ¬ (281474976710656 < Builtin.nextslicecap (n + m) c) := by omega
    simp [Builtin.append_, run_underlying ht, run_underlying hti, run_underlying htu, sizeOf, typeInfo, zeroValue, hi, hz, hsize, hby, Builtin.lenOf, zstr_size, asInt, asIntOf, hf, hwr, hr, hm0, h0, h1, h2, h48, hzc]
theorem wpList_append_zeros {ops : Array Oper} {rest : List Oper} {o : Oper} {a : Act} {Q : Exit → Act → World → Prop} (hgd : o.guard = none) (sl x : Operand) (t ti : TypeId)
    (ho : o.op = .call { callee := .builtin .append, args := #[sl, x], argTypes := #[t, ti] })
    (base : Nat) (tu e : TypeId) (i : TypeInfo) (ht : P.underlying t = some (.slice e)) (hti : P.underlying ti = some (.int .i64)) (hu : P.underlying tu = some .string) (hi : P.info? e = some i) (hz : i.zero = some (.int .u8 0))
    (hsize : i.size = 1) (hby : i.bytes = 1)
    (v : Value) (n : Nat) (xs : List Value) (hs : a.eval sl = v) (hown : w.ownsRow base e 1 v n xs) (m : Nat) (z : Int) (hzm : z = (m : Int)) (hx : a.eval x = .int .i64 z)
    (hm0 : 0 < m) (hm : n + m ≤ 1099511627776) (hbase : base ≤ w.heap.size)
    (h : ∀ v' w', w'.ownsRow base e 1 v' (n + m) (xs ++ u8s (zbytes m)) → w.grownBy w' v.ownBlock → wpList P ops Q rest (a.put o.dst v') w') : wpList P ops Q (o :: rest) a w := by
  subst hzm
  refine wpList_plain hgd fun K hK => ?_
  obtain ⟨v', w', hr, h2, h3, h4⟩ := Lib.run_append_own_string (P := P) w base t tu o.type e i ht hu hi hz hsize hby v n xs hown (zstr m) (by rw [zstr_size]; unfold maxLen; omega) (by rw [zstr_size]; omega) hbase
  rw [zstr_size, zstr_cells] at h2
  obtain ⟨A, c, rfl, _⟩ := own_slice hown
  rw [← run_append_zeros_eq w t ti tu o.type e i ht hti hu hi hz hsize hby A n c m hm0 hm] at hr
  unfold Oper.wp execOp
  simp only [ho, resolve, invoke, builtin, Sem.run_bind, Sem.run_pure, Result.andThen_ok, List.map_toArray, List.map_cons, List.map_nil, hs, hx, hr]
  exact hK _ _ (h v' w' h2 h3)
end
end Go.Proofs.Ytbgahbeldnhloaa

/-
  From a row's condition on the library's table to its cells. No condition of its own.
-/
import Derived.Test.YtalonikiljcpfaaDoorRows
import Derived.Test.YtalonikiljcpfaaDoorSetTz
import Derived.ProofKit
import Derived.LaidMore
import Derived.OpenShut
namespace Go.Proofs.YtalonikiljcpfaaDoor
open Go.RowKit Go.ChangeShapes Go.WideShapes
set_option linter.unusedVariables false
theorem tab_datum : (Rows.laid_math_bits_deBruijn64tab : DataW Unit) = .agg (bruijn.map fun n => .lit (.int .u8 ((n : Nat) : Int))) := by kernel_rfl
theorem tab_global : Tryd.prog.globalNamed "math/bits.deBruijn64tab" = some 4 := by kernel_rfl
theorem tab_type : (Tryd.prog.globals[4]?).map (·.type) = some 93 := by kernel_rfl
theorem tab_of_laid {W : World} (h : laidMetH Tryd.prog [("math/bits.deBruijn64tab", Rows.laid_math_bits_deBruijn64tab)] W) : TabIn W := by
  rw [MakeChecks.laidMetH_plain _ _ _ (by kernel_rfl)] at h
  obtain ⟨ps, ⟨g0, t0, cs0, f0, p0, q0, hg0, ht0, hv0, hd0, _, _⟩, _, _⟩ := h
  obtain rfl := Option.some.inj (tab_global.symm.trans hg0)
  obtain rfl := Option.some.inj (tab_type.symm.trans ht0)
  obtain ⟨xs, m1, rfl, hx1, hlen, hn3, hel⟩ := DataW.trod_array Tryd.underlying93 hd0
  have c1 : Tryd.prog.cellsOf 5 = 1 := by kernel_rfl
  simp only [Prod.mk.injEq] at hx1
  have hx := hx1.1
  rw [tab_datum] at hx
  injection hx with hx
  intro i hi
  have h1 := hel i hi
  rw [c1, Nat.mul_one] at h1
  have hxi : i < xs.length := by omega
  rw [List.getElem?_eq_getElem hxi] at h1
  obtain ⟨n, e1, e2, _⟩ := DataW.trod_int Tryd.underlying5 h1
  have h2 := congrArg (fun l => l[i]?) hx
  simp only [List.getElem?_map] at h2
  rw [List.getElem?_eq_getElem hxi, List.getElem?_eq_getElem (show i < bruijn.length from hi)] at h2
  rw [e2] at h2
  simp only [Option.map_some, Option.some.injEq] at h2
  have h3 : ((bruijn[i]'hi : Nat) : Int) = n := by
    injection h2 with h2
    injection h2 with h2 h2'
  have h4 : W.cell? ⟨4, i, none⟩ = some (.int .u8 n) := by
    rw [World.var?_cell hg0 hv0 i]
    have h5 : (cs0.toList.drop i).head? = some (.int .u8 n) := by
      cases hd : cs0.toList.drop i with
      | nil => rw [hd] at e1; simp at e1
      | cons x l => rw [hd] at e1; simp at e1; simp [e1]
    rw [List.head?_drop] at h5
    rw [← h5]; simp
  refine ⟨?_, ?_⟩
  · rw [h4, ← h3]
    rw [List.getD_eq_getElem?_getD, List.getElem?_eq_getElem (show i < bruijn.length from hi)]
    rfl
  · exact block_lt_of_cell h4
end Go.Proofs.YtalonikiljcpfaaDoor

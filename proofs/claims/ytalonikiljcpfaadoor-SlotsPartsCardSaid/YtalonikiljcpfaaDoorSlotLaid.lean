/-
  From the rows' condition on the listed variables to what their cells hold. No condition.
-/
import Derived.Test.YtalonikiljcpfaaDoorRows
import Derived.Test.YtalonikiljcpfaaDoorSetLaid
import Derived.Test.YtalonikiljcpfaaDoorTab3
import Derived.ProofKit
import Derived.LaidMore
import Derived.OpenShut
import Derived.ChangeArms
namespace Go.Proofs.YtalonikiljcpfaaDoor
open Go.RowKit Go.ChangeShapes Go.WideShapes
set_option linter.unusedVariables false
theorem take_one {l : List Value} {i : Nat} {v : Value} (h : (l.drop i).take 1 = [v]) : l[i]? = some v := by
  have : ((l.drop i).take 1)[0]? = some v := by rw [h]; rfl
  rw [List.getElem?_take, if_pos (by omega), List.getElem?_drop] at this
  simpa using this
theorem tab_of_trod {W : World} {fuel : Nat} {cs : Array Value} {p : List MemPlace} (h : DataW.trod (fun _ => ()) Tryd.prog W 0 (fun _ => true) false fuel 93 cs.toList = some (Rows.laid_math_bits_deBruijn64tab, p)) :
    ∀ i, i < 64 → cs[i]? = some (.int .u8 ((bruijn.getD i 0 : Nat) : Int)) := by
  obtain ⟨xs, m1, rfl, hx1, hlen, hn3, hel⟩ := DataW.trod_array Tryd.underlying93 h
  have c1 : Tryd.prog.cellsOf 5 = 1 := by kernel_rfl
  simp only [Prod.mk.injEq] at hx1
  have hx := hx1.1
  rw [tab_datum] at hx
  injection hx with hx
  intro i hi
  have h1 := hel i hi
  rw [c1, Nat.mul_one] at h1
  have hxi : i < xs.length := by omega
  rw [List.getElem?_eq_getElem hxi] at h1
  obtain ⟨n, e1, e2, _⟩ := DataW.trod_int Tryd.underlying5 h1
  have h2 := congrArg (fun l => l[i]?) hx
  simp only [List.getElem?_map] at h2
  rw [List.getElem?_eq_getElem hxi, List.getElem?_eq_getElem (show i < bruijn.length from hi)] at h2
  rw [e2] at h2
  simp only [Option.map_some, Option.some.injEq] at h2
  have h3 : ((bruijn[i]'hi : Nat) : Int) = n := by
    injection h2 with h2
    injection h2 with h2 h2'
  have h5 := take_one e1
  have h6 : ((bruijn.getD i 0 : Nat) : Int) = n := by
    rw [← h3, List.getD_eq_getElem?_getD, List.getElem?_eq_getElem (show i < bruijn.length from hi)]
    rfl
  rw [h6, ← h5]
  simp
theorem chg_of_trod {W : World} {fuel : Nat} {cs : Array Value} {p : List MemPlace} {d : DataW Unit} (b : Nat → Bool) (to : Nat) (hd : d = .agg [.agg ((List.range 5).map fun i => .lit (.bool (b i))), .lit (.int .i64 (to : Int))]) (h : DataW.trod (fun _ => ()) Tryd.prog W 0 (fun _ => true) false fuel 75 cs.toList = some (d, p)) :
    (∀ i, i < 5 → cs[i]? = some (.bool (b i))) ∧ cs[5]? = some (.int .i64 (to : Int)) := by
  obtain ⟨xs, m1, rfl, hx1, hlen, hn3, hel⟩ := DataW.trod_struct Tryd.underlying75 h
  have c0 : Tryd.prog.cellsOf 73 = 5 := by kernel_rfl
  have c1 : Tryd.prog.cellsOf 4 = 1 := by kernel_rfl
  have c2 : Tryd.prog.cellsOf 3 = 1 := by kernel_rfl
  simp only [Prod.mk.injEq] at hx1
  have hx := hx1.1
  rw [hd] at hx
  injection hx with hx
  have hn2 : xs.length = 2 := hn3
  have f0 : DataW.trod (fun _ => ()) Tryd.prog W 0 (fun _ => true) false m1 73 ((cs.toList.drop 0).take (Tryd.prog.cellsOf 73)) = xs[0]? := hel 0 _ rfl
  have f1 : DataW.trod (fun _ => ()) Tryd.prog W 0 (fun _ => true) false m1 3 ((cs.toList.drop 5).take (Tryd.prog.cellsOf 3)) = xs[1]? := hel 1 _ rfl
  rw [c0] at f0
  rw [c2] at f1
  obtain ⟨x0, x1, rfl⟩ : ∃ x0 x1, xs = [x0, x1] := by
    match xs, hn2 with
    | [a, b], _ => exact ⟨a, b, rfl⟩
  simp only [List.map_cons, List.map_nil, List.cons.injEq, and_true] at hx
  obtain ⟨hx0, hx1'⟩ := hx
  obtain ⟨n, e1, e2, _⟩ := DataW.trod_int Tryd.underlying3 f1
  obtain ⟨ys, m2, rfl, hy1, hlen2, hn4, hel2⟩ := DataW.trod_array Tryd.underlying73 f0
  have hy0 : x0.1 = .agg (ys.map (·.1)) := by rw [hy1]
  rw [← hx0] at hy0
  injection hy0 with hy0
  refine ⟨fun i hi => ?_, ?_⟩
  · have h1 := hel2 i hi
    rw [c1, Nat.mul_one] at h1
    have hyi : i < ys.length := by omega
    rw [List.getElem?_eq_getElem hyi] at h1
    obtain ⟨bb, e3, e4⟩ := DataW.trod_bool Tryd.underlying4 h1
    have h2 := congrArg (fun l => l[i]?) hy0
    simp only [List.getElem?_map] at h2
    rw [List.getElem?_eq_getElem hyi, List.getElem?_range hi, e4] at h2
    simp only [Option.map_some, Option.some.injEq] at h2
    have h3 : b i = bb := by
      injection h2 with h2
      injection h2 with h2
    have h5 := take_one e3
    rw [List.getElem?_take, if_pos hi] at h5
    rw [h3, ← h5]
    simp
  · have h2 : n = (to : Int) := by
      have : x1.1 = .lit (.int .i64 n) := by rw [e2]
      rw [← hx1'] at this
      injection this with this
      injection this with h7 h8
      exact h8.symm
    have h5 := take_one e1
    rw [h2] at h5
    rw [← h5]
    simp
theorem chg_cells {W : World} {nm : String} {q : Nat} {cs : Array Value} {b : Nat → Bool} {to : Nat} (hg : Tryd.prog.globalNamed nm = some q) (hv : W.var? Tryd.prog nm = some cs) (h : (∀ i, i < 5 → cs[i]? = some (.bool (b i))) ∧ cs[5]? = some (.int .i64 (to : Int))) : ChgIn W q b to := by
  have hc : ∀ i, W.cell? ⟨q, i, none⟩ = cs[i]? := fun i => World.var?_cell hg hv i
  exact ⟨(hc 0).trans (h.1 0 (by omega)), (hc 1).trans (h.1 1 (by omega)), (hc 2).trans (h.1 2 (by omega)), (hc 3).trans (h.1 3 (by omega)), (hc 4).trans (h.1 4 (by omega)), (hc 5).trans h.2⟩
theorem seal_global : Tryd.prog.globalNamed "drumlin/slots.sealing" = some 0 := by kernel_rfl
theorem choose_global : Tryd.prog.globalNamed "drumlin/slots.choosing" = some 1 := by kernel_rfl
theorem drop_global : Tryd.prog.globalNamed "drumlin/slots.dropping" = some 2 := by kernel_rfl
theorem load_global : Tryd.prog.globalNamed "drumlin/slots.loading" = some 3 := by kernel_rfl
theorem seal_type : (Tryd.prog.globals[0]?).map (·.type) = some 75 := by kernel_rfl
theorem choose_type : (Tryd.prog.globals[1]?).map (·.type) = some 75 := by kernel_rfl
theorem drop_type : (Tryd.prog.globals[2]?).map (·.type) = some 75 := by kernel_rfl
theorem load_type : (Tryd.prog.globals[3]?).map (·.type) = some 75 := by kernel_rfl
theorem seal_datum : (Rows.laid_drumlin_slots_sealing : DataW Unit) = .agg [.agg ((List.range 5).map fun i => .lit (.bool (sealB i))), .lit (.int .i64 ((2 : Nat) : Int))] := by kernel_rfl
theorem choose_datum : (Rows.laid_drumlin_slots_choosing : DataW Unit) = .agg [.agg ((List.range 5).map fun i => .lit (.bool (chooseB i))), .lit (.int .i64 ((3 : Nat) : Int))] := by kernel_rfl
theorem drop_datum : (Rows.laid_drumlin_slots_dropping : DataW Unit) = .agg [.agg ((List.range 5).map fun i => .lit (.bool (dropB i))), .lit (.int .i64 ((0 : Nat) : Int))] := by kernel_rfl
theorem load_datum : (Rows.laid_drumlin_slots_loading : DataW Unit) = .agg [.agg ((List.range 5).map fun i => .lit (.bool (loadB i))), .lit (.int .i64 ((2 : Nat) : Int))] := by kernel_rfl
theorem laid_of {W : World} (h : laidMetH Tryd.prog [("math/bits.deBruijn64tab", Rows.laid_math_bits_deBruijn64tab), ("drumlin/slots.sealing", Rows.laid_drumlin_slots_sealing), ("drumlin/slots.choosing", Rows.laid_drumlin_slots_choosing), ("drumlin/slots.dropping", Rows.laid_drumlin_slots_dropping), ("drumlin/slots.loading", Rows.laid_drumlin_slots_loading)] W) : LaidIn W := by
  rw [MakeChecks.laidMetH_plain _ _ _ (by kernel_rfl)] at h
  obtain ⟨ps, ⟨g0, t0, cs0, f0, p0, q0, hg0, ht0, hv0, hd0, ⟨g1, t1, cs1, f1, p1, q1, hg1, ht1, hv1, hd1, ⟨g2, t2, cs2, f2, p2, q2, hg2, ht2, hv2, hd2, ⟨g3, t3, cs3, f3, p3, q3, hg3, ht3, hv3, hd3, ⟨g4, t4, cs4, f4, p4, q4, hg4, ht4, hv4, hd4, _, _⟩, _⟩, _⟩, _⟩, _⟩, _, _⟩ := h
  obtain rfl := Option.some.inj (tab_global.symm.trans hg0)
  obtain rfl := Option.some.inj (tab_type.symm.trans ht0)
  obtain rfl := Option.some.inj (seal_global.symm.trans hg1)
  obtain rfl := Option.some.inj (seal_type.symm.trans ht1)
  obtain rfl := Option.some.inj (choose_global.symm.trans hg2)
  obtain rfl := Option.some.inj (choose_type.symm.trans ht2)
  obtain rfl := Option.some.inj (drop_global.symm.trans hg3)
  obtain rfl := Option.some.inj (drop_type.symm.trans ht3)
  obtain rfl := Option.some.inj (load_global.symm.trans hg4)
  obtain rfl := Option.some.inj (load_type.symm.trans ht4)
  have hc : ∀ i, W.cell? ⟨4, i, none⟩ = cs0[i]? := fun i => World.var?_cell hg0 hv0 i
  have ht := tab_of_trod hd0
  have hlt : 4 < W.heap.size := block_lt_of_cell ((hc 0).trans (ht 0 (by omega)))
  exact ⟨fun i hi => ⟨(hc i).trans (ht i hi), hlt⟩, chg_cells hg1 hv1 (chg_of_trod sealB 2 seal_datum hd1), chg_cells hg2 hv2 (chg_of_trod chooseB 3 choose_datum hd2), chg_cells hg3 hv3 (chg_of_trod dropB 0 drop_datum hd3), chg_cells hg4 hv4 (chg_of_trod loadB 2 load_datum hd4), hlt⟩
end Go.Proofs.YtalonikiljcpfaaDoor

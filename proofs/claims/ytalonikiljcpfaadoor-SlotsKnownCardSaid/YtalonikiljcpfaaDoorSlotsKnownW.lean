/-
  The walk of the law SlotsKnown: it returns true and writes nothing that was there. Condition: the variables hold what their texts list.
-/
import Derived.Test.YtalonikiljcpfaaDoorTabSep
import Derived.Test.YtalonikiljcpfaaDoorSlotLaid
namespace Go.Proofs.YtalonikiljcpfaaDoor
open Go.RowKit
set_option linter.unusedVariables false
def kt (i : Nat) : List Nat := (List.range 32).map fun x => if x < i then 2 else 0
theorem kt_step : ∀ i, i < 32 → takeV (kt i) 1 0 = i ∧ takeE (kt i) 1 0 11 = 0 ∧ chgE sealB 2 (takeT (kt i) 1 0) (i : Int) = 0 ∧ chgT sealB 2 (takeT (kt i) 1 0) (i : Int) = kt (i + 1) := by
  have h : ∀ i : Fin 32, takeV (kt i.val) 1 0 = i.val ∧ takeE (kt i.val) 1 0 11 = 0 ∧ chgE sealB 2 (takeT (kt i.val) 1 0) (i.val : Int) = 0 ∧ chgT sealB 2 (takeT (kt i.val) 1 0) (i.val : Int) = kt (i.val + 1) := by decide +kernel
  exact fun i hi => h ⟨i, hi⟩
set_option maxHeartbeats 4000000 in
set_option maxRecDepth 100000 in
theorem SlotsKnown_walk (w : World) (hl : LaidIn w) :
    Calls Tryd.prog 5 #[] w fun e w' => e = .returned (.bool true) ∧ Below w.heap.size w w' := by
  have HL := Lib.hid hl
  have hB := hl.big
  clear hl
  go_enter Tryd.func5, Tryd.ntmps5
  go_wp2_with fail
  refine (sep_tnew (Sep.start w) 32 0 (by omega) (by omega) (by omega)).mono ?_
  rintro e w1 ⟨g, p, rfl, hs⟩
  have H := Lib.hid hs
  clear hs
  go_wp2_with fail
  refine (sep_tnew H.out 1 1 (by omega) (by omega) (by omega)).mono ?_
  rintro e w2 ⟨g2, p2, rfl, hs⟩
  have H : Hid (Sep w.heap.size w w2 [tabOb g p 0 (kt 0), tabOb g2 p2 1 [0]]) := by
    have := hs.perm (List.Perm.swap _ _ _)
    exact this
  clear hs
  go_wp2_with fail
  go_loopg [5] 32 (fun q v5 wr => ∃ (j : Nat), j + q = 32 ∧ v5 = .int .i64 j ∧ Sep w.heap.size w wr [tabOb g p 0 (kt j), tabOb g2 p2 1 [0]])
  case atStart => exact ⟨0, by omega, rfl, H.out⟩
  case round =>
    obtain ⟨j, hj, rfl, hs⟩ := hrel
    have HJ := Lib.hid hj
    have hj' : j ≤ 32 := by omega
    have HS := Lib.hid hs
    by_cases hlt : j < 32
    · obtain ⟨e1, e2, e3, e4⟩ := kt_step j hlt
      have E1 := Lib.hid e1
      have E2 := Lib.hid e2
      have E3 := Lib.hid e3
      have E4 := Lib.hid e4
      clear hj hs e1 e2 e3 e4
      go_wp2_with fail
      refine (sep_tactive HS.out HL.out hB j 0 _ E1.out E2.out rfl).mono ?_
      rintro e w3 ⟨rfl, hs⟩
      have H3 := Lib.hid hs
      clear hs
      go_wp2_with fail
      refine (sep_tseal H3.out HL.out hB j 0 _ E3.out E4.out).mono ?_
      rintro e w4 ⟨rfl, hs⟩
      have H4 := Lib.hid hs
      clear hs
      go_wp2_with fail
      go_roundg (gk - 1)
      case measure => have := HJ.out; omega
      case rel => exact ⟨j + 1, by have := HJ.out; omega, by go_num, H4.out⟩
    · have e8 : j = 32 := by omega
      subst e8
      clear hj hs
      have H := Lib.hid HS.out
      go_wp2_with fail
      refine (sep_tactive H.out HL.out hB 0 11 (kt 32) (by decide +kernel) (by decide +kernel) (by decide +kernel)).mono ?_
      rintro e w5 ⟨rfl, hs⟩
      have H := Lib.hid hs
      clear hs
      go_wp2_with fail
      refine (sep_toutput H.out HL.out hB 0 4 (kt 32) (by decide +kernel) (by decide +kernel) (by decide +kernel)).mono ?_
      rintro e w6 ⟨rfl, hs⟩
      have H := Lib.hid (hs.perm (List.Perm.swap _ _ _))
      clear hs
      go_wp2_with fail
      refine (sep_tactive H.out HL.out hB 0 11 [0] (by decide +kernel) (by decide +kernel) (by decide +kernel)).mono ?_
      rintro e w7 ⟨rfl, hs⟩
      have H := Lib.hid hs
      clear hs
      go_wp2_with fail
      refine (sep_toutput H.out HL.out hB 0 0 [4] (by decide +kernel) (by decide +kernel) (by decide +kernel)).mono ?_
      rintro e w8 ⟨rfl, hs⟩
      have H := Lib.hid hs
      clear hs
      go_wp2_with fail
      refine (sep_toutput H.out HL.out hB 0 6 [4] (by decide +kernel) (by decide +kernel) (by decide +kernel)).mono ?_
      rintro e w9 ⟨rfl, hs⟩
      have H := Lib.hid hs
      clear hs
      go_wp2_with fail
      refine (sep_tchoose H.out HL.out hB 0 7 [4] (by decide +kernel) (by decide +kernel)).mono ?_
      rintro e w10 ⟨rfl, hs⟩
      have H := Lib.hid hs
      clear hs
      go_wp2_with fail
      refine (sep_tdrop H.out HL.out hB 0 7 [4] (by decide +kernel) (by decide +kernel)).mono ?_
      rintro e w11 ⟨rfl, hs⟩
      have H := Lib.hid hs
      clear hs
      go_wp2_with fail
      refine (sep_tload H.out HL.out hB 0 7 [4] (by decide +kernel) (by decide +kernel)).mono ?_
      rintro e w12 ⟨rfl, hs⟩
      have H := Lib.hid hs
      clear hs
      go_wp2_with fail
      refine (sep_tseal H.out HL.out hB 0 0 [2] (by decide +kernel) (by decide +kernel)).mono ?_
      rintro e w13 ⟨rfl, hs⟩
      have H := Lib.hid hs
      clear hs
      go_wp2_with fail
      refine (sep_tchoose H.out HL.out hB 0 0 [3] (by decide +kernel) (by decide +kernel)).mono ?_
      rintro e w14 ⟨rfl, hs⟩
      have H := Lib.hid hs
      clear hs
      go_wp2_with fail
      refine (sep_tchoose H.out HL.out hB 0 7 [3] (by decide +kernel) (by decide +kernel)).mono ?_
      rintro e w15 ⟨rfl, hs⟩
      have H := Lib.hid hs
      clear hs
      go_wp2_with fail
      refine (sep_tdrop H.out HL.out hB 0 0 [0] (by decide +kernel) (by decide +kernel)).mono ?_
      rintro e w16 ⟨rfl, hs⟩
      have H := Lib.hid hs
      clear hs
      go_wp2_with fail
      refine (works_any _ (H.out.laid HL.out hB)).mono ?_
      rintro e w17 ⟨rfl, hb⟩
      have HB := Lib.hid hb
      clear hb
      go_wp2_with fail
      go_ret
      exact ⟨rfl, (H.out.below HB.out).bel⟩
end Go.Proofs.YtalonikiljcpfaaDoor

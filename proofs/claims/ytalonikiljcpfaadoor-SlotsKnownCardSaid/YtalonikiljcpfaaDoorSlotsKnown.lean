/-
  The law SlotsKnown of the given program, proved, as its tied card: for every input it returns true, and its arguments read behind the call as before. Condition: the listed variable of the library holds what the program's text lays; the card ties that to the text.
-/
import Derived.Test.YtalonikiljcpfaaDoorRows
import Derived.Test.YtalonikiljcpfaaDoorTie
import Derived.Test.YtalonikiljcpfaaDoorCards
import Derived.Test.YtalonikiljcpfaaDoorArgs
import Derived.Test.YtalonikiljcpfaaDoorSlotLaid
import Derived.Test.YtalonikiljcpfaaDoorSlotsKnownW
import Derived.WalkKit
import Derived.ProofKit
import Derived.LaidMore
import Derived.OpenShut
import Derived.Stop.Joined
import Derived.ChangeOld
import Derived.Below
import Derived.SevenTiedAt
namespace Go.Proofs.YtalonikiljcpfaaDoor.slotsKnown
open Go Go.ChangeShapes Go.WideShapes Go.ChangeAt Go.RowKit
set_option linter.unusedVariables false

theorem own : ownKnob Tryd.prog.godebug = none := by kernel_rfl
theorem laidOut : laidOutB Tryd.prog = true := by kernel_rfl

theorem door_met (os : Os) (args : Array Value) : laidMetH Tryd.prog [("math/bits.deBruijn64tab", Rows.laid_math_bits_deBruijn64tab), ("drumlin/slots.sealing", Rows.laid_drumlin_slots_sealing), ("drumlin/slots.choosing", Rows.laid_drumlin_slots_choosing), ("drumlin/slots.dropping", Rows.laid_drumlin_slots_dropping), ("drumlin/slots.loading", Rows.laid_drumlin_slots_loading)] ((World.doorLaid Tryd.prog 400 os).forCall (fun _ _ => 0) ⟨#[], args, []⟩).memory :=
  laidMetH_of_parts3 (fuel := 8) (laidMet_of_run' 8 (by kernel_rfl) (by kernel_rfl)) (by kernel_rfl) (by kernel_rfl)
set_option maxRecDepth 100000 in
theorem lifted (os : Os) (started : os.Started) (H : Type) (enc : TypeId × Value → H) :
    ReturnsInHanded {} Tryd.checked os 5 .any (fun w args => (Rows.slotsKnownSpec.pre enc Tryd.prog Tryd.f5 [] false w args ∧ laidMetH Tryd.prog [("math/bits.deBruijn64tab", Rows.laid_math_bits_deBruijn64tab), ("drumlin/slots.sealing", Rows.laid_drumlin_slots_sealing), ("drumlin/slots.choosing", Rows.laid_drumlin_slots_choosing), ("drumlin/slots.dropping", Rows.laid_drumlin_slots_dropping), ("drumlin/slots.loading", Rows.laid_drumlin_slots_loading)] w) ∧ sizedMet enc Tryd.prog Tryd.f5 (OpenSpec.ofChange Rows.slotsKnownSpec) false w args)
      (Rows.slotsKnownSpec.post enc Tryd.prog Tryd.f5 false true false false) := by
  refine returnsInHanded_of_change_and (C := Tryd.checked) (X := fun w _ => laidMetH Tryd.prog [("math/bits.deBruijn64tab", Rows.laid_math_bits_deBruijn64tab), ("drumlin/slots.sealing", Rows.laid_drumlin_slots_sealing), ("drumlin/slots.choosing", Rows.laid_drumlin_slots_choosing), ("drumlin/slots.dropping", Rows.laid_drumlin_slots_dropping), ("drumlin/slots.loading", Rows.laid_drumlin_slots_loading)] w) (fun _ _ _ hh h => h.of_heap hh) own started (by kernel_rfl) Tryd.func5
    (ChangeSpec.witness_shaped (enc := enc) (C := Tryd.checked) (os := os) (X := fun w _ => laidMetH Tryd.prog [("math/bits.deBruijn64tab", Rows.laid_math_bits_deBruijn64tab), ("drumlin/slots.sealing", Rows.laid_drumlin_slots_sealing), ("drumlin/slots.choosing", Rows.laid_drumlin_slots_choosing), ("drumlin/slots.dropping", Rows.laid_drumlin_slots_dropping), ("drumlin/slots.loading", Rows.laid_drumlin_slots_loading)] w) false (World.doorLaid Tryd.prog 400 os) #[] 8 rfl (World.shaped_of_RefB (by kernel_rfl) (by kernel_rfl)) (by kernel_rfl) (by kernel_rfl) (by kernel_rfl) (door_met os _)) ?_
  intro W base args ds gs before hval0 hW _ _ hL _
  have hval : ∀ (j : Nat) t v, Tryd.f5.params[j]? = some t → args[j]? = some v → Value.okWide Tryd.prog W .any base t v := hval0
  have hW' := hW
  obtain ⟨p, q, hA0, hV, rfl, hfz, hnd⟩ := hW
  have hA : DataW.TrodAll enc Tryd.prog W 0 (fun _ => true) true Tryd.f5.params.toList args.toList ds p := hA0
  rw [Tryd.params5] at hA hval
  obtain ⟨rfl, rfl, rfl⟩ := trodAll_none hA
  obtain ⟨rfl, rfl⟩ := trodVars_none hV
  clear hA0 hval0
  refine (SlotsKnown_walk  W (laid_of hL) ).mono fun e W' ⟨he, bel⟩ => ?_
  subst he
  exact ⟨_, rfl, _, _, _, [], _, [], hW', trodAll_mk1 (shut_bool Tryd.underlying4 _), trodAll_mk0, rfl, bel.frame _, fun h => by cases h⟩

theorem slotsKnown_row : Rows.SlotsKnownSaid :=
  OpenClaim.holds_of_wide 5 Tryd.f5 rfl rfl rfl rfl rfl rfl rfl ⟨rfl, rfl, rfl, rfl, rfl⟩ rfl rfl rfl rfl rfl (by kernel_rfl) Tryd.func5 (by kernel_rfl)
    (of_decide_eq_true (by kernel_rfl)) (by unfold Func.isWrapper; first | (rw [if_pos (by decide +kernel)]; kernel_rfl) | (rw [if_neg (by decide +kernel)]; exact ⟨rfl, rfl⟩))
    (fun os started H enc _ => lifted os started H enc)
theorem slotsKnown_proved : Rows.SlotsKnownCardSaid :=
  Claim7.holds_tied_plain_at .later [] [.data, .data, .data, .data, .data] true (true, "96024d5166ef05cfa04af87d4e607c448d93a4603b5cc1e2f9b9c901592f4871") false
    slotsKnown_row (fun _ h => by cases h) (by kernel_rfl) (fun _ h => by cases h) slotsKnown_row_tie rfl ⟨rfl, rfl⟩ (by kernel_rfl) rfl
    (fun f fn hf hfn => by
      obtain rfl : f = 5 := Option.some.inj ((show Tryd.prog.funcNamed "drumlin/drumlinlaw20.SlotsKnown" = some 5 by kernel_rfl).symm.trans hf) |>.symm
      obtain rfl : fn = Tryd.f5 := (Option.some.inj (Tryd.func5.symm.trans hfn)).symm
      exact ⟨by kernel_rfl, fun j t ht => by
        rw [Tryd.params5] at ht
        simp at ht⟩)
    (by kernel_rfl)
#print axioms slotsKnown_proved
end Go.Proofs.YtalonikiljcpfaaDoor.slotsKnown

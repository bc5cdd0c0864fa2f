/-
  A set's methods. Conditions: the set is as New makes it (each slot's bit is as a list of truth values says).
-/
import Derived.Test.YtalonikiljcpfaaDoorSetLen
import Derived.Test.YtalonikiljcpfaaDoorSetTz
import Derived.Test.YtalonikiljcpfaaDoorLaws
import Derived.Test.YtalonikiljcpfaaDoorSep
namespace Go.Proofs.YtalonikiljcpfaaDoor
open Go.RowKit Go.Shelf
set_option linter.unusedVariables false
/-- What is at a place of a list; false behind it. -/
def inL (L : List Bool) (i : Nat) : Bool := L.getD i false
theorem inL_ge {L : List Bool} {i : Nat} (h : L.length ≤ i) : inL L i = false := by
  unfold inL
  rw [List.getD_eq_getElem?_getD, List.getElem?_eq_none h]
  rfl
theorem inL_lt {L : List Bool} {i : Nat} (h : inL L i = true) : i < L.length := by
  by_cases e : i < L.length
  · exact e
  · rw [inL_ge (by omega)] at h; cases h
theorem inL_set (L : List Bool) (i : Nat) (v : Bool) (j : Nat) : inL (L.set i v) j = if j = i ∧ i < L.length then v else inL L j := by
  unfold inL
  simp only [List.getD_eq_getElem?_getD, List.getElem?_set]
  by_cases h : i = j
  · subst h
    by_cases h2 : i < L.length
    · simp [h2]
    · simp [h2]
  · have h3 : ¬ j = i := fun e => h e.symm
    simp [h, h3]
/-- The slots of a set, in order. -/
def slotsOf (L : List Bool) : List Nat := (List.range L.length).filter fun i => inL L i
structure ASet (w : World) (g : Nat) (L : List Bool) (b : W64) : Prop where
  blk : IsSet w g L.length b
  pos : 0 < L.length
  le : L.length ≤ 34
  bits : ∀ i, b.getLsbD i = inL L i
def HasSet (w : World) (g : Nat) (L : List Bool) : Prop := ∃ b, ASet w g L b
theorem ASet.elems {w : World} {g : Nat} {L : List Bool} {b : W64} (h : ASet w g L b) : elems b L.length = slotsOf L := List.filter_congr fun i hi => h.bits i
theorem ASet.zero {w : World} {g : Nat} {L : List Bool} {b : W64} (h : ASet w g L b) (i : Nat) (hi : L.length ≤ i) : b.getLsbD i = false := by
  rw [h.bits]; exact inL_ge hi
theorem HasSet.keep {w w' : World} {g : Nat} {L : List Bool} {F : Nat → Prop} (h : HasSet w g L) (hc : Chg F w w') (hg : ¬ F g) : HasSet w' g L := by
  obtain ⟨b, h⟩ := h
  exact ⟨b, h.blk.chg hc hg, h.pos, h.le, h.bits⟩
theorem HasSet.below {w w' : World} {g B : Nat} {L : List Bool} (h : HasSet w g L) (hb : Below B w w') (hg : g < B) : HasSet w' g L := by
  obtain ⟨b, h⟩ := h
  exact ⟨b, Blk.below h.blk hb hg, h.pos, h.le, h.bits⟩
theorem HasSet.lt {w : World} {g : Nat} {L : List Bool} (h : HasSet w g L) : g < w.heap.size := by
  obtain ⟨b, h⟩ := h
  exact Blk.lt h.blk
/-- The set as an object among others. -/
def setOb (g : Nat) (L : List Bool) : Ob where
  P w := HasSet w g L
  F k := k = g
  keep := fun hc hd h => h.keep hc (fun hg => hd g rfl hg)
  lt := fun h k hk => by subst hk; exact h.lt
theorem andNot_u64 (x y : W64) : Go.bits .andNot .u64 (n64 x) (n64 y) = n64 (x &&& ~~~y) := by
  unfold n64
  rw [u64_andNot_nat _ _ x.isLt y.isLt, BitVec.toNat_and, BitVec.toNat_not]
theorem pow_u64 (j : Nat) (hj : j < 64) : IntKind.u64.wrap ((2 : Int) ^ j) = n64 (1#64 <<< j) := by
  have : ∀ i : Fin 64, IntKind.u64.wrap ((2 : Int) ^ i.val) = (((1#64 <<< i.val).toNat : Nat) : Int) := by decide +kernel
  unfold n64
  exact this ⟨j, hj⟩
section
variable {w : World} {g : Nat} {L : List Bool}
set_option maxHeartbeats 400000 in
theorem new_set (n : Nat) (w : World) (h1 : 1 ≤ n) (h2 : n ≤ 34) :
    Calls Tryd.prog 42 #[.int .i64 (n : Int)] w fun e w' => e = .returned (.tuple #[.pointer (some ⟨w.heap.size, 0, none⟩), .int .i64 0]) ∧ HasSet w' w.heap.size (List.replicate n false) ∧ Below w.heap.size w w' := by
  go_enter Tryd.func42, Tryd.ntmps42
  go_wp2_with fail
  go_ret2
  refine ⟨rfl, ⟨0#64, ?_, by rw [List.length_replicate]; omega, by rw [List.length_replicate]; omega, fun i => ?_⟩, ba (Below.refl _ _) _⟩
  · have e : n64 0#64 = 0 := by unfold n64; rfl
    unfold IsSet
    rw [List.length_replicate, e]
    exact Blk.new _ _ _
  · unfold inL
    simp [List.getElem?_replicate]
    split <;> rfl
set_option maxHeartbeats 400000 in
theorem new_set_bad (n : Int) (w : World) (h : n < 1 ∨ 34 < n) :
    Calls Tryd.prog 42 #[.int .i64 n] w fun e w' => e = .returned (.tuple #[.pointer none, .int .i64 2]) ∧ w = w' := by
  by_cases h1 : n < 1
  · clear h
    go_enter Tryd.func42, Tryd.ntmps42
    go_wp2_with fail
    go_ret2
    exact ⟨rfl, rfl⟩
  · have h2 : 34 < n := by omega
    clear h
    go_enter Tryd.func42, Tryd.ntmps42
    go_wp2_with fail
    go_ret2
    exact ⟨rfl, rfl⟩
theorem valid_of (h : HasSet w g L) :
    Calls Tryd.prog 58 #[.pointer (some ⟨g, 0, none⟩)] w fun e w' => e = .returned (.bool true) ∧ w = w' := by
  obtain ⟨b, h⟩ := h
  exact valid_set h.blk h.pos
set_option maxHeartbeats 400000 in
theorem check_out (h : HasSet w g L) (j : Int) (hj : j < 0 ∨ (L.length : Int) ≤ j) :
    Calls Tryd.prog 60 #[.pointer (some ⟨g, 0, none⟩), .int .i64 j] w fun e w' => e = .returned (.int .i64 3) ∧ w = w' := by
  have hv := valid_of h
  obtain ⟨b, h⟩ := h
  have q0 : w.cell? ⟨g, 0, none⟩ = some (.int .i64 (L.length : Int)) := h.blk.cell 0
  have H := Lib.hid hv
  clear h hv
  by_cases h1 : j < 0
  · clear hj
    go_enter Tryd.func60, Tryd.ntmps60
    go_wp2_with fail
    refine H.out.mono ?_
    rintro e w' ⟨rfl, rfl⟩
    go_wp2_with fail
    go_ret
    exact ⟨rfl, rfl⟩
  · have h2 : (L.length : Int) ≤ j := by omega
    clear hj
    go_enter Tryd.func60, Tryd.ntmps60
    go_wp2_with fail
    refine H.out.mono ?_
    rintro e w' ⟨rfl, rfl⟩
    go_wp2_with fail
    go_ret
    exact ⟨rfl, rfl⟩
theorem has_of (h : HasSet w g L) (j : Nat) (hj : j < L.length) :
    Calls Tryd.prog 40 #[.pointer (some ⟨g, 0, none⟩), .int .i64 (j : Int)] w fun e w' => e = .returned (.bool (inL L j)) ∧ w = w' := by
  obtain ⟨b, h⟩ := h
  exact has_in h.blk h.pos h.le j hj _ (h.bits j)
set_option maxHeartbeats 400000 in
theorem has_out (h : HasSet w g L) (j : Int) (hj : j < 0 ∨ (L.length : Int) ≤ j) :
    Calls Tryd.prog 40 #[.pointer (some ⟨g, 0, none⟩), .int .i64 j] w fun e w' => e = .returned (.bool false) ∧ w = w' := by
  have H := Lib.hid h
  have HJ := Lib.hid hj
  clear h hj
  go_enter Tryd.func40, Tryd.ntmps40
  go_wp2_with fail
  refine (check_out H.out j HJ.out).mono ?_
  rintro e w' ⟨rfl, rfl⟩
  go_wp2_with fail
  go_ret
  exact ⟨rfl, rfl⟩
set_option maxHeartbeats 1000000 in
theorem add_of (h : HasSet w g L) (j : Nat) (hj : j < L.length) :
    Calls Tryd.prog 43 #[.pointer (some ⟨g, 0, none⟩), .int .i64 (j : Int)] w fun e w' => e = .returned (.int .i64 0) ∧ HasSet w' g (L.set j true) ∧ Chg (fun k => k = g) w w' := by
  obtain ⟨b, h⟩ := h
  have q1 : w.cell? ⟨g, 1, none⟩ = some (.int .u64 (n64 b)) := h.blk.cell 1
  have f1 := Blk.frozen h.blk 1
  have HC := Lib.hid (check_in h.blk h.pos h.le j hj)
  have H := Lib.hid h
  have hj64 : j < 64 := by have := h.le; omega
  have a1 := pow_u64 j hj64
  have a2 := or_u64 b (1#64 <<< j)
  clear h
  go_enter Tryd.func43, Tryd.ntmps43
  go_wp2_with fail
  refine HC.out.mono ?_
  rintro e w' ⟨rfl, rfl⟩
  go_wp2_with fail
  go_region
  go_wp2_with fail
  go_ret
  refine ⟨rfl, ⟨b ||| 1#64 <<< j, ?_, by rw [List.length_set]; exact H.out.pos, by rw [List.length_set]; exact H.out.le, fun i => ?_⟩, (Chg.setCell (Chg.refl (fun k => k = g) w) (p := ⟨g, 1, none⟩) (.inl rfl) _).drew⟩
  · have := Blk.set_ H.out.blk 1 (.int .u64 (n64 (b ||| 1#64 <<< j)))
    unfold IsSet
    rw [List.length_set]
    exact this
  · rw [BitVec.getLsbD_or, H.out.bits, inL_set, BitVec.getLsbD_shiftLeft, BitVec.getLsbD_one]
    by_cases e : i = j
    · subst e; simp [hj64, hj]
    · have e2 : i < j ∨ i - j ≠ 0 := by omega
      rcases e2 with e2 | e2
      · simp [e, e2]
      · simp [e, e2]
set_option maxHeartbeats 1000000 in
theorem remove_of (h : HasSet w g L) (j : Nat) (hj : j < L.length) :
    Calls Tryd.prog 65 #[.pointer (some ⟨g, 0, none⟩), .int .i64 (j : Int)] w fun e w' => e = .returned (.int .i64 0) ∧ HasSet w' g (L.set j false) ∧ Chg (fun k => k = g) w w' := by
  obtain ⟨b, h⟩ := h
  have q1 : w.cell? ⟨g, 1, none⟩ = some (.int .u64 (n64 b)) := h.blk.cell 1
  have f1 := Blk.frozen h.blk 1
  have HC := Lib.hid (check_in h.blk h.pos h.le j hj)
  have H := Lib.hid h
  have hj64 : j < 64 := by have := h.le; omega
  have a1 := pow_u64 j hj64
  have a2 := andNot_u64 b (1#64 <<< j)
  clear h
  go_enter Tryd.func65, Tryd.ntmps65
  go_wp2_with fail
  refine HC.out.mono ?_
  rintro e w' ⟨rfl, rfl⟩
  go_wp2_with fail
  go_region
  go_wp2_with fail
  go_ret
  refine ⟨rfl, ⟨b &&& ~~~(1#64 <<< j), ?_, by rw [List.length_set]; exact H.out.pos, by rw [List.length_set]; exact H.out.le, fun i => ?_⟩, (Chg.setCell (Chg.refl (fun k => k = g) w) (p := ⟨g, 1, none⟩) (.inl rfl) _).drew⟩
  · have := Blk.set_ H.out.blk 1 (.int .u64 (n64 (b &&& ~~~(1#64 <<< j))))
    unfold IsSet
    rw [List.length_set]
    exact this
  · rw [BitVec.getLsbD_and, BitVec.getLsbD_not, H.out.bits, inL_set, BitVec.getLsbD_shiftLeft, BitVec.getLsbD_one]
    by_cases e : i = j
    · subst e; simp [hj64, hj]
    · have hi : inL L i = true → i < 64 := fun hh => by have := inL_lt hh; have := H.out.le; omega
      by_cases hb : inL L i = true
      · have := hi hb
        have e2 : i < j ∨ i - j ≠ 0 := by omega
        rcases e2 with e2 | e2
        · simp [e, e2, this]
        · simp [e, e2, this]
      · simp [e, hb]
set_option maxHeartbeats 400000 in
theorem add_out (h : HasSet w g L) (j : Int) (hj : j < 0 ∨ (L.length : Int) ≤ j) :
    Calls Tryd.prog 43 #[.pointer (some ⟨g, 0, none⟩), .int .i64 j] w fun e w' => e = .returned (.int .i64 3) ∧ w = w' := by
  have H := Lib.hid h
  have HJ := Lib.hid hj
  clear h hj
  go_enter Tryd.func43, Tryd.ntmps43
  go_wp2_with fail
  refine (check_out H.out j HJ.out).mono ?_
  rintro e w' ⟨rfl, rfl⟩
  go_wp2_with fail
  go_ret
  exact ⟨rfl, rfl⟩
set_option maxHeartbeats 400000 in
theorem remove_out (h : HasSet w g L) (j : Int) (hj : j < 0 ∨ (L.length : Int) ≤ j) :
    Calls Tryd.prog 65 #[.pointer (some ⟨g, 0, none⟩), .int .i64 j] w fun e w' => e = .returned (.int .i64 3) ∧ w = w' := by
  have H := Lib.hid h
  have HJ := Lib.hid hj
  clear h hj
  go_enter Tryd.func65, Tryd.ntmps65
  go_wp2_with fail
  refine (check_out H.out j HJ.out).mono ?_
  rintro e w' ⟨rfl, rfl⟩
  go_wp2_with fail
  go_ret
  exact ⟨rfl, rfl⟩
theorem len_of (h : HasSet w g L) :
    Calls Tryd.prog 39 #[.pointer (some ⟨g, 0, none⟩)] w fun e w' => e = .returned (.int .i64 ((slotsOf L).length : Int)) ∧ w = w' := by
  obtain ⟨b, h⟩ := h
  have := len_says w g L.length b h.blk h.pos h.le h.zero
  rw [h.elems] at this
  exact this
end
end Go.Proofs.YtalonikiljcpfaaDoor

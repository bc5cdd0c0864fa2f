/-
  A table's methods where the table is nil, or was not made by New. No condition.
-/
import Derived.Test.YtalonikiljcpfaaDoorTabSame
import Derived.Test.YtalonikiljcpfaaDoorTabSep
namespace Go.Proofs.YtalonikiljcpfaaDoor
open Go.RowKit
set_option linter.unusedVariables false
def NoTab (w : World) (p : Option Addr) : Prop := p = none ∨ ∃ g, p = some ⟨g, 0, none⟩ ∧ w.cell? ⟨g, 0, none⟩ = some (.int .i64 0)
theorem NoTab.below {w w' : World} {p : Option Addr} (h : NoTab w p) (hb : Below w.heap.size w w') : NoTab w' p := by
  rcases h with rfl | ⟨g, rfl, hc⟩
  · exact .inl rfl
  · exact .inr ⟨g, rfl, (hb.cell (p := ⟨g, 0, none⟩) (block_lt_of_cell hc)).trans hc⟩
section
variable {w : World} {p : Option Addr}
set_option maxHeartbeats 400000 in
theorem novalid (h : NoTab w p) :
    Calls Tryd.prog 38 #[.pointer p] w fun e w' => e = .returned (.bool false) ∧ w = w' := by
  rcases h with rfl | ⟨g, rfl, hc⟩
  · go_enter Tryd.func38, Tryd.ntmps38
    go_wp2_with fail
    go_ret
    exact ⟨rfl, rfl⟩
  · go_enter Tryd.func38, Tryd.ntmps38
    go_wp2_with fail
    go_ret
    exact ⟨rfl, rfl⟩
set_option maxHeartbeats 400000 in
theorem noactive (h : NoTab w p) :
    Calls Tryd.prog 22 #[.pointer p] w fun e w' => e = .returned (.tuple #[.int .i64 0, .int .i64 1]) ∧ w = w' := by
  have HV := Lib.hid (novalid h)
  clear h
  go_enter Tryd.func22, Tryd.ntmps22
  go_wp2_with fail
  refine HV.out.mono ?_
  rintro e w' ⟨rfl, rfl⟩
  go_wp2_with fail
  go_ret2
  exact ⟨rfl, rfl⟩
set_option maxHeartbeats 400000 in
theorem nooutput (h : NoTab w p) :
    Calls Tryd.prog 23 #[.pointer p] w fun e w' => e = .returned (.tuple #[.int .i64 0, .int .i64 1]) ∧ w = w' := by
  have HV := Lib.hid (novalid h)
  clear h
  go_enter Tryd.func23, Tryd.ntmps23
  go_wp2_with fail
  refine HV.out.mono ?_
  rintro e w' ⟨rfl, rfl⟩
  go_wp2_with fail
  go_ret2
  exact ⟨rfl, rfl⟩
set_option maxHeartbeats 400000 in
theorem nostate (h : NoTab w p) (i : Int) :
    Calls Tryd.prog 16 #[.pointer p, .int .i64 i] w fun e w' => e = .returned (.tuple #[.int .i64 0, .int .i64 1]) ∧ w = w' := by
  have HV := Lib.hid (novalid h)
  clear h
  go_enter Tryd.func16, Tryd.ntmps16
  go_wp2_with fail
  refine HV.out.mono ?_
  rintro e w' ⟨rfl, rfl⟩
  go_wp2_with fail
  go_ret2
  exact ⟨rfl, rfl⟩
set_option maxHeartbeats 400000 in
theorem nosizes (h : NoTab w p) :
    Calls Tryd.prog 25 #[.pointer p] w fun e w' => e = .returned (.tuple #[.int .i64 0, .int .i64 0]) ∧ w = w' := by
  have HV := Lib.hid (novalid h)
  clear h
  go_enter Tryd.func25, Tryd.ntmps25
  go_wp2_with fail
  refine HV.out.mono ?_
  rintro e w' ⟨rfl, rfl⟩
  go_wp2_with fail
  go_ret2
  exact ⟨rfl, rfl⟩
set_option maxHeartbeats 400000 in
theorem nofree (h : NoTab w p) :
    Calls Tryd.prog 15 #[.pointer p] w fun e w' => e = .returned (.int .i64 0) ∧ w = w' := by
  have HV := Lib.hid (novalid h)
  clear h
  go_enter Tryd.func15, Tryd.ntmps15
  go_wp2_with fail
  refine HV.out.mono ?_
  rintro e w' ⟨rfl, rfl⟩
  go_wp2_with fail
  go_ret
  exact ⟨rfl, rfl⟩
set_option maxHeartbeats 400000 in
theorem nocopy (h : NoTab w p) :
    Calls Tryd.prog 24 #[.pointer p] w fun e w' => e = .returned (.pointer none) ∧ w = w' := by
  have HV := Lib.hid (novalid h)
  clear h
  go_enter Tryd.func24, Tryd.ntmps24
  go_wp2_with fail
  refine HV.out.mono ?_
  rintro e w' ⟨rfl, rfl⟩
  go_wp2_with fail
  go_ret
  exact ⟨rfl, rfl⟩
set_option maxHeartbeats 1000000 in
theorem noonly (h : NoTab w p) (s : Int) :
    Calls Tryd.prog 27 #[.pointer p, .int .i64 s] w fun e w' => e = .returned (.tuple #[.int .i64 0, .bool false]) ∧ w = w' := by
  by_cases hs : s = 1 ∨ s = 3 ∨ s = 4
  · have HV := Lib.hid (novalid h)
    clear h
    rcases hs with rfl | rfl | rfl
    all_goals
      go_enter Tryd.func27, Tryd.ntmps27
      go_wp2_with fail
      refine HV.out.mono ?_
      rintro e w' ⟨rfl, rfl⟩
      go_wp2_with fail
      go_ret2
      exact ⟨rfl, rfl⟩
  · exact tonly_no p w s (by omega) (by omega) (by omega)
set_option maxHeartbeats 1000000 in
theorem nochange (h : NoTab w p) (b : Nat → Bool) (to : Nat) (i : Int) :
    Calls Tryd.prog 41 #[.pointer p, .int .i64 i, chgV b to] w fun e w' => e = .returned (.int .i64 1) ∧ Below w.heap.size w w' := by
  have H := Lib.hid h
  clear h
  unfold chgV
  go_enter Tryd.func41, Tryd.ntmps41
  go_wp2_with fail
  refine (nostate (H.out.below ((Below.refl _ _).alloc (Nat.le_refl _) _)) i).mono ?_
  rintro e w1 ⟨rfl, rfl⟩
  go_wp2_with fail
  go_ret
  exact ⟨rfl, (Below.refl _ _).alloc (Nat.le_refl _) _⟩
set_option maxHeartbeats 1000000 in
theorem noseal (h : NoTab w p) (hl : LaidIn w) (i : Int) :
    Calls Tryd.prog 17 #[.pointer p, .int .i64 i] w fun e w' => e = .returned (.int .i64 1) ∧ Below w.heap.size w w' := by
  obtain ⟨c0, c1, c2, c3, c4, c5⟩ := hl.sl
  have HC := Lib.hid (nochange h sealB 2 i)
  unfold chgV at HC
  clear h hl
  go_enter Tryd.func17, Tryd.ntmps17
  go_wp2_with fail
  refine HC.out.mono ?_
  rintro e w1 ⟨rfl, hs⟩
  have HS := Lib.hid hs
  clear hs c0 c1 c2 c3 c4 c5
  go_wp2_with fail
  go_ret
  exact ⟨rfl, HS.out⟩
set_option maxHeartbeats 1000000 in
theorem nochoose (h : NoTab w p) (hl : LaidIn w) (i : Int) :
    Calls Tryd.prog 18 #[.pointer p, .int .i64 i] w fun e w' => e = .returned (.int .i64 1) ∧ Below w.heap.size w w' := by
  obtain ⟨c0, c1, c2, c3, c4, c5⟩ := hl.ch
  have HC := Lib.hid (nochange h chooseB 3 i)
  unfold chgV at HC
  clear h hl
  go_enter Tryd.func18, Tryd.ntmps18
  go_wp2_with fail
  refine HC.out.mono ?_
  rintro e w1 ⟨rfl, hs⟩
  have HS := Lib.hid hs
  clear hs c0 c1 c2 c3 c4 c5
  go_wp2_with fail
  go_ret
  exact ⟨rfl, HS.out⟩
set_option maxHeartbeats 1000000 in
theorem nodrop (h : NoTab w p) (hl : LaidIn w) (i : Int) :
    Calls Tryd.prog 19 #[.pointer p, .int .i64 i] w fun e w' => e = .returned (.int .i64 1) ∧ Below w.heap.size w w' := by
  obtain ⟨c0, c1, c2, c3, c4, c5⟩ := hl.dr
  have HC := Lib.hid (nochange h dropB 0 i)
  unfold chgV at HC
  clear h hl
  go_enter Tryd.func19, Tryd.ntmps19
  go_wp2_with fail
  refine HC.out.mono ?_
  rintro e w1 ⟨rfl, hs⟩
  have HS := Lib.hid hs
  clear hs c0 c1 c2 c3 c4 c5
  go_wp2_with fail
  go_ret
  exact ⟨rfl, HS.out⟩
set_option maxHeartbeats 1000000 in
theorem noload (h : NoTab w p) (hl : LaidIn w) (i : Int) :
    Calls Tryd.prog 20 #[.pointer p, .int .i64 i] w fun e w' => e = .returned (.int .i64 1) ∧ Below w.heap.size w w' := by
  obtain ⟨c0, c1, c2, c3, c4, c5⟩ := hl.ld
  have HC := Lib.hid (nochange h loadB 2 i)
  unfold chgV at HC
  clear h hl
  go_enter Tryd.func20, Tryd.ntmps20
  go_wp2_with fail
  refine HC.out.mono ?_
  rintro e w1 ⟨rfl, hs⟩
  have HS := Lib.hid hs
  clear hs c0 c1 c2 c3 c4 c5
  go_wp2_with fail
  go_ret
  exact ⟨rfl, HS.out⟩
theorem nosame (h : NoTab w p) (st : Int) :
    Calls Tryd.prog 28 #[.pointer p, .int .i64 st, .slice none 0 0] w fun e w' => e = .returned (.bool true) ∧ Below w.heap.size w w' :=
  same_gen w p st [] none 0 0 rfl (by omega) Reads.none_ (fun W0 B1 B2 I hI => in1_none p st B1 B2 false I W0 (fun V hV => ⟨(hI V hV).1, (hI V hV).2.1, fun V' hV' => novalid ((h.below (hI V hV).2.2).below hV')⟩) (.inl rfl))
end
end Go.Proofs.YtalonikiljcpfaaDoor

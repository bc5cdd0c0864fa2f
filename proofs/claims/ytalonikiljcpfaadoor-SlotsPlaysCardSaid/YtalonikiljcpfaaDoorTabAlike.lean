/-
  The walk of the slots law's alike: a table and the document's that hold the same show the same; also where both are none. Conditions: both are as New makes them; the library's table holds what its text lists.
-/
import Derived.Test.YtalonikiljcpfaaDoorRTab3
namespace Go.Proofs.YtalonikiljcpfaaDoor
open Go.RowKit
set_option linter.unusedVariables false
section
variable {w w' : World} {g g' b r : Nat} {p : Nat → Nat} {T : List Nat}
theorem tonly_any (h : IsTab w g p r T) (ht : TabIn w) (st : Int) :
    Calls Tryd.prog 27 #[.pointer (some ⟨g, 0, none⟩), .int .i64 st] w fun e w' => e = .returned (.tuple #[.int .i64 (onlyV T st : Int), .bool (onlyB T st)]) ∧ w = w' := by
  by_cases hs : st = 1 ∨ st = 3 ∨ st = 4
  · obtain ⟨s, rfl, hs2⟩ : ∃ s : Nat, st = (s : Int) ∧ (s = 1 ∨ s = 3 ∨ s = 4) := ⟨st.toNat, by omega, by omega⟩
    have hv : onlyV T (s : Int) = firstIn T s := by
      unfold onlyV
      rw [only_nat T s hs2, Int.toNat_natCast]
      by_cases hc : 0 < cnt T s
      · rw [decide_eq_true hc, if_pos rfl]
      · rw [decide_eq_false hc, if_neg (by simp)]
        unfold firstIn
        unfold cnt at hc
        rw [List.eq_nil_of_length_eq_zero (l := slotsOf (memb T s)) (by omega)]
        rfl
    rw [hv, only_nat T s hs2]
    exact tonly h s hs2 ht _ _ (next_firstIn T s)
  · have hB : onlyB T st = false := by unfold onlyB; rw [decide_eq_false hs, Bool.false_and]
    have hV : onlyV T st = 0 := by unfold onlyV; rw [hB]; rfl
    rw [hB, hV]
    exact tonly_no _ w st (by omega) (by omega) (by omega)
theorem bdn (w : World) (q : Nat) : Below w.heap.size w (w.drewN q) := ⟨rfl, rfl, rfl, Nat.le_refl _, fun _ _ => rfl⟩
set_option maxRecDepth 100000 in
set_option maxHeartbeats 8000000 in
theorem alike_any (h : IsTab w g p r T) (hr : RTab w g' b r T) (ht : TabIn w) (slot st : Int) :
    Calls Tryd.prog 37 #[.pointer (some ⟨g, 0, none⟩), .pointer (some ⟨g', 0, none⟩), .int .i64 slot, .int .i64 st] w fun e w' => e = .returned (.bool true) ∧ Below w.heap.size w w' := by
  have H := Lib.hid h
  have R := Lib.hid hr
  have HS1 := Lib.hid (tstate_any h slot)
  have HS2 := Lib.hid (rtstate hr slot)
  have HO1 := Lib.hid (tonly_any h ht st)
  have HO2 := Lib.hid (rtonly hr st)
  obtain ⟨a1, ha1⟩ : ∃ a1, stV T slot = a1 := ⟨_, rfl⟩
  obtain ⟨a2, ha2⟩ : ∃ a2, stE T slot = a2 := ⟨_, rfl⟩
  obtain ⟨a3, ha3⟩ : ∃ a3, onlyV T st = a3 := ⟨_, rfl⟩
  obtain ⟨a4, ha4⟩ : ∃ a4, onlyB T st = a4 := ⟨_, rfl⟩
  rw [ha1, ha2] at HS1 HS2
  rw [ha3, ha4] at HO1 HO2
  have HZ : Hid (∀ X, Below w.heap.size w X → Calls Tryd.prog 25 #[.pointer (some ⟨g, 0, none⟩)] X fun e w' => e = .returned (.tuple #[.int .i64 (T.length : Int), .int .i64 (r : Int)]) ∧ Below X.heap.size X w') := fun X hX => (tsizes (h.below hX)).mono fun e w' ⟨h1, q, h2⟩ => ⟨h1, by rw [h2]; exact bdn X q⟩
  have HZ2 : Hid (∀ X, Below w.heap.size w X → Calls Tryd.prog 56 #[.pointer (some ⟨g', 0, none⟩)] X fun e w' => e = .returned (.tuple #[.int .i64 (T.length : Int), .int .i64 (r : Int)]) ∧ Below X.heap.size X w') := fun X hX => (rtsizes (hr.below hX)).mono fun e w' ⟨h1, q, h2⟩ => ⟨h1, by rw [h2]; exact bdn X q⟩
  have HF := Lib.hid (fun X (hX : Below w.heap.size w X) => tfree (h.below hX))
  have HF2 := Lib.hid (fun X (hX : Below w.heap.size w X) => rtfree (hr.below hX))
  have HI : Hid (∀ X, Below w.heap.size w X → ∀ s : Int, Calls Tryd.prog 57 #[.pointer (some ⟨g', 0, none⟩), .int .i64 s] X fun e w' => ∃ A n c, e = .returned (.slice A n c) ∧ Below X.heap.size X w' ∧ ∀ Y, Below w'.heap.size w' Y → Calls Tryd.prog 28 #[.pointer (some ⟨g, 0, none⟩), .int .i64 s, .slice A n c] Y fun e w' => e = .returned (.bool true) ∧ Below Y.heap.size Y w') := fun X hX s => by
    refine (rtin (hr.below hX) s).mono ?_
    rintro e w1 ⟨v1, rfl, ho, hb⟩
    obtain ⟨A1, c1, rfl, h11, h12, h13⟩ := own_slice ho
    exact ⟨A1, _, c1, rfl, hb, fun Y hY => same_tab (((h.below hX).below hb).below hY) s A1 _ c1 rfl ((h13.below hY).more hY.size)⟩
  obtain ⟨n, hn⟩ : ∃ n, T.length = n := ⟨_, rfl⟩
  obtain ⟨c0, hc0⟩ : ∃ c0, cnt T 0 = c0 := ⟨_, rfl⟩
  rw [hn] at HZ HZ2
  rw [hc0] at HF HF2
  clear h hr ht ha1 ha2 ha3 ha4 hn hc0
  go_enter Tryd.func37, Tryd.ntmps37
  go_wp2_with fail
  refine HS1.out.mono ?_
  rintro e w' ⟨rfl, rfl⟩
  go_wp2_with fail
  refine HS2.out.mono ?_
  rintro e w' ⟨rfl, rfl⟩
  go_wp2_with fail
  refine HO1.out.mono ?_
  rintro e w' ⟨rfl, rfl⟩
  go_wp2_with fail
  refine HO2.out.mono ?_
  rintro e w1 ⟨rfl, hb⟩
  have HB1 := Lib.hid hb
  clear hb
  go_wp2_with fail
  refine (HZ.out _ HB1.out).mono ?_
  rintro e w2 ⟨rfl, hb⟩
  have HB2 := Lib.hid (HB1.out.trans (hb.mono HB1.out.size))
  clear hb
  go_wp2_with fail
  refine (HZ2.out _ HB2.out).mono ?_
  rintro e w3 ⟨rfl, hb⟩
  have HB3 := Lib.hid (HB2.out.trans (hb.mono HB2.out.size))
  clear hb
  have hbb : (a4 != a4) = false := by simp
  go_wp2_with fail
  refine (HF.out _ HB3.out).mono ?_
  rintro e w' ⟨rfl, rfl⟩
  go_wp2_with fail
  refine (HF2.out _ HB3.out).mono ?_
  rintro e w4 ⟨rfl, hb⟩
  have HB4 := Lib.hid (HB3.out.trans (hb.mono HB3.out.size))
  clear hb
  go_wp2_with fail
  refine (HI.out _ HB4.out st).mono ?_
  rintro e w5 ⟨A5, n5, c5, rfl, hb, hsm⟩
  have HB5 := Lib.hid (HB4.out.trans (hb.mono HB4.out.size))
  have HSM := Lib.hid hsm
  clear hb hsm
  go_wp2_with fail
  refine (HSM.out _ (Below.refl _ _)).mono ?_
  rintro e w6 ⟨rfl, hb⟩
  have HB6 := Lib.hid (HB5.out.trans (hb.mono HB5.out.size))
  clear hb
  go_wp2_with fail
  go_loopg [21] 5 (fun q v21 wr => ∃ (j : Nat), j + q = 5 ∧ v21 = .int .i64 j ∧ Below w.heap.size w wr)
  case atStart => exact ⟨0, by omega, rfl, HB6.out⟩
  case round =>
    obtain ⟨j, hj, rfl, hb⟩ := hrel
    have HJ := Lib.hid hj
    have hj' : j ≤ 5 := by omega
    have HB7 := Lib.hid hb
    by_cases hlt : j < 5
    · clear hj hb
      go_wp2_with fail
      refine (HI.out _ HB7.out (j : Int)).mono ?_
      rintro e w8 ⟨A8, n8', c8, rfl, hb, hsm⟩
      have HB8 := Lib.hid (HB7.out.trans (hb.mono HB7.out.size))
      have HSM2 := Lib.hid hsm
      clear hb hsm
      go_wp2_with fail
      refine (HSM2.out _ (Below.refl _ _)).mono ?_
      rintro e w9 ⟨rfl, hb⟩
      have HB9 := Lib.hid (HB8.out.trans (hb.mono HB8.out.size))
      clear hb
      go_wp2_with fail
      go_roundg (gk - 1)
      case measure => have := HJ.out; omega
      case rel => exact ⟨j + 1, by have := HJ.out; omega, by go_num, HB9.out⟩
    · clear hj hb
      go_wp2_with fail
      go_ret
      exact ⟨rfl, HB7.out⟩
set_option maxRecDepth 100000 in
set_option maxHeartbeats 8000000 in
theorem alike_none (w : World) (slot st : Int) :
    Calls Tryd.prog 37 #[.pointer none, .pointer none, .int .i64 slot, .int .i64 st] w fun e w' => e = .returned (.bool true) ∧ Below w.heap.size w w' := by
  have HN : Hid (∀ X, NoTab X none) := fun X => .inl rfl
  go_enter Tryd.func37, Tryd.ntmps37
  go_wp2_with fail
  refine (nostate (HN.out _) slot).mono ?_
  rintro e w' ⟨rfl, rfl⟩
  go_wp2_with fail
  refine (rnostate _ slot).mono ?_
  rintro e w' ⟨rfl, rfl⟩
  go_wp2_with fail
  refine (noonly (HN.out _) st).mono ?_
  rintro e w' ⟨rfl, rfl⟩
  go_wp2_with fail
  refine (rnoonly _ st).mono ?_
  rintro e w' ⟨rfl, rfl⟩
  go_wp2_with fail
  refine (nosizes (HN.out _)).mono ?_
  rintro e w' ⟨rfl, rfl⟩
  go_wp2_with fail
  refine (rnosizes _).mono ?_
  rintro e w' ⟨rfl, rfl⟩
  go_wp2_with fail
  refine (nofree (HN.out _)).mono ?_
  rintro e w' ⟨rfl, rfl⟩
  go_wp2_with fail
  refine (rnofree _).mono ?_
  rintro e w' ⟨rfl, rfl⟩
  go_wp2_with fail
  refine (rnoin _ st).mono ?_
  rintro e w' ⟨rfl, rfl⟩
  go_wp2_with fail
  refine (nosame (HN.out _) st).mono ?_
  rintro e w6 ⟨rfl, hb⟩
  have HB6 := Lib.hid hb
  clear hb
  go_wp2_with fail
  go_loopg [21] 5 (fun q v21 wr => ∃ (j : Nat), j + q = 5 ∧ v21 = .int .i64 j ∧ Below w.heap.size w wr)
  case atStart => exact ⟨0, by omega, rfl, HB6.out⟩
  case round =>
    obtain ⟨j, hj, rfl, hb⟩ := hrel
    have HJ := Lib.hid hj
    have hj' : j ≤ 5 := by omega
    have HB7 := Lib.hid hb
    by_cases hlt : j < 5
    · clear hj hb
      go_wp2_with fail
      refine (rnoin _ (j : Int)).mono ?_
      rintro e w' ⟨rfl, rfl⟩
      go_wp2_with fail
      refine (nosame (HN.out _) (j : Int)).mono ?_
      rintro e w9 ⟨rfl, hb⟩
      have HB9 := Lib.hid (HB7.out.trans (hb.mono HB7.out.size))
      clear hb
      go_wp2_with fail
      go_roundg (gk - 1)
      case measure => have := HJ.out; omega
      case rel => exact ⟨j + 1, by have := HJ.out; omega, by go_num, HB9.out⟩
    · clear hj hb
      go_wp2_with fail
      go_ret
      exact ⟨rfl, HB7.out⟩
end
end Go.Proofs.YtalonikiljcpfaaDoor

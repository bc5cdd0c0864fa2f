/-
  The walk of the disk laws' whole: a disk and the document's that hold the same show the same of all slots. Conditions: both are as New makes them.
-/
import Derived.Test.YtelobbigpgfobaaDshow
namespace Go.Proofs.Ytelobbigpgfobaa
open Go.RowKit
set_option linter.unusedVariables false
section
variable {w w' : World} {S : Nat → Prop} {d g n : Nat} {D : Nat → SlotD} {rb : Option Nat} {lay : Lay}
theorem rlen_int (r : IsR w S g n D) (hn : 0 < n) (i : Int) :
    Calls Try.prog 57 #[.pointer (some ⟨g, 0, none⟩), .int .i64 i] w fun e w' => ∃ x y, e = .returned (.tuple #[.int .i64 x, .int .i64 y]) ∧ w = w' := by
  by_cases hi : i < 0 ∨ (n : Int) ≤ i
  · exact (rlen_range r hn i hi).mono fun e w' ⟨h1, h2⟩ => ⟨_, _, h1, h2⟩
  · obtain ⟨s, rfl⟩ : ∃ s : Nat, i = (s : Int) := ⟨i.toNat, by omega⟩
    exact (rlen r hn s (by omega)).mono fun e w' ⟨h1, h2⟩ => ⟨_, _, h1, h2⟩
theorem ints_cells {base k : Nat} {v : Value} {l : List Int} (h : w.ownsRow base 3 1 v k (ints l)) : ∃ A c, v = .slice A k c ∧ k ≤ c ∧ c ≤ maxLen ∧ l.length = k ∧ ∀ j, j < k → ∃ ad, A = some ad ∧ ad.block < w.heap.size ∧ w.cell? (ad.add j) = some (.int .i64 (l.getD j 0)) := by
  obtain ⟨A, c, h1, h2, h3, h4⟩ := own_slice h
  have hl : l.length = k := by have := h4.1; rw [ints_length] at this; omega
  refine ⟨A, c, h1, h2, h3, hl, fun j hj => ?_⟩
  obtain ⟨ad, u, e, hb, hx, hc⟩ := h4.at_ hj
  have hjl : j < l.length := by omega
  rw [ints_at hjl] at hx
  injection hx with hx
  subst hx
  exact ⟨ad, e, hb, by rw [hc, List.getD_eq_getElem?_getD, List.getElem?_eq_getElem hjl, Option.getD_some]⟩
set_option maxRecDepth 100000 in
set_option maxHeartbeats 4000000 in
theorem whole_any (h : IsDisk w d rb n lay D) (r : IsR w S g n D) (hn : 0 < n) (hm34 : n ≤ 65536) :
    Calls Try.prog 32 #[.pointer (some ⟨d, 0, none⟩), .pointer (some ⟨g, 0, none⟩)] w fun e w' => e = .returned (.bool true) ∧ Below w.heap.size w w' := by
  have HD := Lib.hid h
  have HR := Lib.hid r
  clear h r
  go_enter Try.func32, Try.ntmps32
  go_wp2_with fail
  refine (used_law d n rb lay D w HD.out hn hm34).mono ?_
  rintro e w1 ⟨v1, rfl, ho, hb⟩
  obtain ⟨A1, c1, rfl, h11, h12, h13, h14⟩ := ints_cells ho
  have HL1 := Lib.hid h14
  have HD1 := Lib.hid (HD.out.below hb)
  have HR1 := Lib.hid (HR.out.below hb)
  have HB1 := Lib.hid hb
  clear ho hb h14 h13
  go_wp2_with fail
  refine (rused HR1.out hn hm34).mono ?_
  rintro e w2 ⟨v2, rfl, ho, hb⟩
  obtain ⟨A2, c2, rfl, h21, h22, h23, h24⟩ := ints_cells ho
  obtain ⟨us, hus⟩ : ∃ us, us = nats (usedTo D n) := ⟨_, rfl⟩
  have hul := usedTo_length D n
  obtain ⟨L, hL⟩ : ∃ L, (usedTo D n).length = L := ⟨_, rfl⟩
  rw [hL, ← hus] at h24 HL1
  rw [hL] at h11 h21 hul
  have HL : Hid (∀ j, j < L → ∃ ad1 ad2, A1 = some ad1 ∧ A2 = some ad2 ∧ w2.cell? (ad1.add j) = some (.int .i64 (us.getD j 0)) ∧ w2.cell? (ad2.add j) = some (.int .i64 (us.getD j 0))) := fun j hj => by
    obtain ⟨ad1, e1, b1, k1⟩ := HL1.out j hj
    obtain ⟨ad2, e2, b2, k2⟩ := h24 j hj
    exact ⟨ad1, ad2, e1, e2, (hb.cell (p := ad1.add j) (by rw [block_of_add]; exact b1)).trans k1, k2⟩
  have HD2 := Lib.hid (HD1.out.below hb)
  have HR2 := Lib.hid (HR1.out.below hb)
  have HB2 := Lib.hid (bt HB1.out hb)
  rw [hL]
  unfold maxLen at h12 h22
  clear ho hb h24 h23 HL1 hus hL
  go_wp2_with fail
  refine (slots_disk HD2.out hn).mono ?_
  rintro e wx ⟨rfl, rfl⟩
  go_wp2_with fail
  refine (rslots HR2.out hn).mono ?_
  rintro e wx ⟨rfl, rfl⟩
  go_wp2_with fail
  go_loopg [7] L (fun q v7 wr => ∃ (j : Nat), j + q = L ∧ v7 = .int .i64 j ∧ ∃ q, wr = w2.drewN q)
  case atStart => exact ⟨0, by omega, rfl, 0, rfl⟩
  case round =>
    obtain ⟨j, hj, rfl, q, rfl⟩ := hrel
    have HJ := Lib.hid hj
    have hj' : j ≤ L := by omega
    by_cases hlt : j < L
    · obtain ⟨ad1, ad2, rfl, rfl, k1, k2⟩ := HL.out j hlt
      obtain ⟨z, hz⟩ : ∃ z, us.getD j 0 = z := ⟨_, rfl⟩
      rw [hz] at k1 k2
      clear hj hz
      go_wp2_with fail
      go_quiet (fail)
      go_wp2_with fail
      go_roundg (gk - 1)
      case measure => have := HJ.out; omega
      case rel => exact ⟨j + 1, by have := HJ.out; omega, by go_num, _, rfl⟩
    · have e8 : j = L := by omega
      subst e8
      clear hj HJ
      have hb := bel_drewN' w2 q
      have HD3 := Lib.hid (HD2.out.below hb)
      have HR3 := Lib.hid (HR2.out.below hb)
      have HB3 := Lib.hid (bt HB2.out hb)
      generalize w2.drewN q = w3 at HD3 HR3 HB3 ⊢
      clear hb
      go_wp2_with fail
      go_loopg [8] (n + 2) (fun q v8 wr => ∃ (j : Nat), j + q = n + 2 ∧ v8 = .int .i64 ((j : Int) - 1) ∧ Below w3.heap.size w3 wr)
      case atStart => exact ⟨0, by omega, rfl, Below.refl _ _⟩
      case round =>
        obtain ⟨i, hi, rfl, hb⟩ := hrel
        have HI := Lib.hid hi
        have hi' : i ≤ n + 2 := by omega
        have HD4 := Lib.hid (HD3.out.below hb)
        have HR4 := Lib.hid (HR3.out.below hb)
        have HB4 := Lib.hid hb
        by_cases hlt2 : i < n + 2
        · have d1 : decide ((i : Int) - 1 ≤ (n : Int)) = true := by simp; omega
          clear hi hb
          go_wp2_with fail
          refine (rslots HR4.out hn).mono ?_
          rintro e wx ⟨rfl, rfl⟩
          go_wp2_with fail
          refine (rlen_int HR4.out hn _).mono ?_
          rintro e wx ⟨x, y, rfl, rfl⟩
          go_wp2_with fail
          refine (alike_any HD4.out HR4.out hn hm34 _ _ _).mono ?_
          rintro e w5 ⟨rfl, hb⟩
          have HB5 := Lib.hid hb
          clear hb
          go_wp2_with fail
          go_roundg (gk - 1)
          case measure => have := HI.out; omega
          case rel => exact ⟨i + 1, by have := HI.out; omega, by go_num, bt HB4.out HB5.out⟩
        · have e8 : i = n + 2 := by omega
          subst e8
          have d1 : decide (((n + 2 : Nat) : Int) - 1 ≤ (n : Int)) = false := by simp; omega
          clear hi hb
          go_wp2_with fail
          refine (rslots HR4.out hn).mono ?_
          rintro e wx ⟨rfl, rfl⟩
          go_wp2_with fail
          go_ret
          exact ⟨rfl, bt HB3.out HB4.out⟩
end
end Go.Proofs.Ytelobbigpgfobaa

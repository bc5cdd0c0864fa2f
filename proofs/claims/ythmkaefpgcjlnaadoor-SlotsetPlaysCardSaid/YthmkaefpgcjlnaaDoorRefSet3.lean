/-
  The document's sets: Union, Minus; sets that are nil; both kinds once more, with what they hold as one datum (none: nil). Conditions: the sets are as their News make them.
-/
import Derived.Test.YthmkaefpgcjlnaaDoorRefSet2
import Derived.Test.YthmkaefpgcjlnaaDoorSetNo
namespace Go.Proofs.YthmkaefpgcjlnaaDoor
open Go.RowKit Go.Shelf
set_option linter.unusedVariables false
theorem bel_drewN (w : World) (q : Nat) : Below w.heap.size w (w.drewN q) := ⟨rfl, rfl, rfl, Nat.le_refl _, fun _ _ => rfl⟩
section
variable {w : World} {g b t tb : Nat} {L M : List Bool}
set_option maxHeartbeats 2000000 in
theorem rtake_ok (h : RSet w g b L) (h' : RSet w t tb M) (hd : ∀ k, rfoot t tb k → ¬ rfoot g b k) (hl : L.length = M.length) (v : Bool) :
    Calls Tryd.prog 48 #[.pointer (some ⟨g, 0, none⟩), .pointer (some ⟨t, 0, none⟩), .bool v] w fun e w' => e = .returned (.int .i64 0) ∧ RSet w' g b (setAll L (slotsOf M) v) ∧ Chg (rfoot g b) w w' := by
  have H := Lib.hid h
  have H' := Lib.hid h'
  have HL := Lib.hid hl
  obtain ⟨c, q0, _, _, _⟩ := h.parts
  obtain ⟨c', p0, _, _, _⟩ := h'.parts
  have HV := Lib.hid (rvalid h)
  have HV' := Lib.hid (rvalid h')
  have hne : ((L.length : Int) != (M.length : Int)) = false := by rw [hl]; simp
  have hle := h.le
  have hsl := slotsOf_le M
  have hK : (slotsOf M).length ≤ 34 := by omega
  clear h h' hl hd hsl
  go_enter Tryd.func48, Tryd.ntmps48
  go_wp2_with fail
  refine HV.out.mono ?_
  rintro e w' ⟨rfl, rfl⟩
  go_wp2_with fail
  refine HV'.out.mono ?_
  rintro e w' ⟨rfl, rfl⟩
  go_wp2_with fail
  go_quiet (fail)
  clear q0 p0 hne
  have HQ := Lib.hid (H.out.below (bel_drewN w nq))
  have HQ' := Lib.hid (H'.out.below (bel_drewN w nq))
  have HBQ := Lib.hid (bel_drewN w nq)
  generalize w.drewN nq = w1 at HQ HQ' HBQ ⊢
  go_wp2_with fail
  refine (rall_any HQ'.out).mono ?_
  rintro e w2 ⟨vl, rfl, ho, hb⟩
  obtain ⟨A, c2, rfl, hc1, hc2, hr⟩ := own_slice ho
  have HB2 := Lib.hid (bt HBQ.out hb)
  have HR2 := Lib.hid hr
  have hA : ∀ ad, A = some ad → w1.heap.size ≤ ad.block := fun ad e => (ho.lt ad.block (by rw [e]; rfl)).1
  have HA := Lib.hid hA
  have H2 := Lib.hid (HQ.out.below hb)
  have hglt : ∀ k, rfoot g b k → k < w1.heap.size := HQ.out.lt
  have HG := Lib.hid hglt
  unfold maxLen at hc2
  clear ho hb hr hA hglt
  go_wp2_with fail
  go_loopg [8] (slotsOf M).length (fun q v8 wr => ∃ j : Nat, j + q = (slotsOf M).length ∧ v8 = .int .i64 j ∧ RSet wr g b (setAll L ((slotsOf M).take j) v) ∧ Chg (rfoot g b) w2 wr)
  case atStart => exact ⟨0, by omega, rfl, H2.out, Chg.refl _ _⟩
  case round =>
    obtain ⟨j, hj, rfl, hs, hch⟩ := hrel
    have HJ := Lib.hid hj
    have HS := Lib.hid hs
    have HC := Lib.hid hch
    by_cases hlt : j < (slotsOf M).length
    · obtain ⟨ad, u, rfl, hab, hx, hc⟩ := HR2.out.at_ hlt
      rw [nats_at hlt] at hx
      simp only [Option.some.injEq] at hx
      subst hx
      have hcw : wr.cell? (ad.add j) = some (.int .i64 (((slotsOf M)[j] : Nat) : Int)) := by
        rw [World.cell?_of_block (hch.block (ad.add j).block (by rw [block_of_add]; exact hab) (fun e => by rw [block_of_add] at e; have := HG.out _ e; have := HA.out ad rfl; omega))]
        exact hc
      have hin := (slots_mem M _).1 (List.getElem_mem hlt)
      have hxM := inL_lt hin
      have HT : Hid (setAll L ((slotsOf M).take (j + 1)) v = (setAll L ((slotsOf M).take j) v).set (slotsOf M)[j] v) := by show _ = _; rw [List.take_succ_eq_append_getElem hlt, setAll_snoc]
      obtain ⟨x, hx⟩ : ∃ x, (slotsOf M)[j] = x := ⟨_, rfl⟩
      rw [hx] at hcw hxM HT
      obtain ⟨⟨cc, k1, k2⟩, k3, k4, k5⟩ := hs
      have hLl : (setAll L ((slotsOf M).take j) v).length = L.length := setAll_length _ _ _
      have hxL : x < L.length := by have := HL.out; omega
      have q0 : wr.cell? ⟨g, 0, none⟩ = some (.slice (some ⟨b, 0, none⟩) L.length cc) := by have := k1.cell 0; rw [hLl] at this; exact this
      have q1 : wr.cell? ⟨b, x, none⟩ = some (.bool (inL (setAll L ((slotsOf M).take j) v) x)) := by rw [k2.cellAt x (by omega), bvals_at (by omega)]
      have f1 := k2.frozenAt x
      obtain ⟨k6, k7⟩ := k2.stored x (.bool v)
      have HS2 : Hid (RSet (wr.setCell ⟨b, x, none⟩ (.bool v)) g b (setAll L ((slotsOf M).take (j + 1)) v)) := by
        show RSet _ _ _ _
        rw [HT.out]
        refine ⟨⟨cc, ?_, ?_⟩, k3, by rw [List.length_set]; exact k4, by rw [List.length_set]; exact k5⟩
        · rw [List.length_set]; exact k1.far (by exact fun e => k3 e.symm) _
        · rw [List.length_set]
          have : bvals ((setAll L ((slotsOf M).take j) v).set x v) = (bvals (setAll L ((slotsOf M).take j) v)).set x (.bool v) := by simp [bvals, List.map_set]
          rw [this]; exact k6
      have HC2 : Hid (Chg (rfoot g b) w2 (wr.setCell ⟨b, x, none⟩ (.bool v)).drew) := (Chg.setCell HC.out (p := ⟨b, x, none⟩) (.inl (.inr rfl)) _).drew
      have HS3 : Hid (RSet (wr.setCell ⟨b, x, none⟩ (.bool v)).drew g b (setAll L ((slotsOf M).take (j + 1)) v)) := HS2.out.below ⟨rfl, rfl, rfl, Nat.le_refl _, fun _ _ => rfl⟩
      generalize inL (setAll L ((slotsOf M).take j) v) x = vx at q1
      clear hj hch hc hin hxM hx k1 k2 k3 k4 k5 k6 k7 hLl
      go_wp2_with fail
      go_region
      go_wp2_with fail
      go_roundg (gk - 1)
      case measure => have := HJ.out; omega
      case rel => exact ⟨j + 1, by have := HJ.out; omega, by go_num, HS3.out, HC2.out⟩
    · have e8 : j = (slotsOf M).length := by omega
      subst e8
      have HF : Hid (RSet wr g b (setAll L (slotsOf M) v)) := by have := HS.out; rw [List.take_length] at this; exact this
      clear hj hs hch
      go_wp2_with fail
      go_ret
      exact ⟨rfl, HF.out, (Chg.of_below (F := rfoot g b) HB2.out).trans HC.out (fun _ _ h => h)⟩
set_option maxHeartbeats 1000000 in
theorem rtake_bad (h : RSet w g b L) (h' : RSet w t tb M) (hl : L.length ≠ M.length) (v : Bool) :
    Calls Tryd.prog 48 #[.pointer (some ⟨g, 0, none⟩), .pointer (some ⟨t, 0, none⟩), .bool v] w fun e w' => e = .returned (.int .i64 2) ∧ Below w.heap.size w w' := by
  obtain ⟨c, q0, _, _, _⟩ := h.parts
  obtain ⟨c', p0, _, _, _⟩ := h'.parts
  have HV := Lib.hid (rvalid h)
  have HV' := Lib.hid (rvalid h')
  have hne : ((L.length : Int) != (M.length : Int)) = true := by simp; omega
  clear h h' hl
  go_enter Tryd.func48, Tryd.ntmps48
  go_wp2_with fail
  refine HV.out.mono ?_
  rintro e w' ⟨rfl, rfl⟩
  go_wp2_with fail
  refine HV'.out.mono ?_
  rintro e w' ⟨rfl, rfl⟩
  go_wp2_with fail
  go_quiet (fail)
  go_wp2_with fail
  go_ret
  exact ⟨rfl, bel_drewN _ _⟩
set_option maxHeartbeats 400000 in
theorem rtake_no1 (w : World) (q : Option Addr) (v : Bool) :
    Calls Tryd.prog 48 #[.pointer none, .pointer q, .bool v] w fun e w' => e = .returned (.int .i64 1) ∧ w = w' := by
  go_enter Tryd.func48, Tryd.ntmps48
  go_wp2_with fail
  refine (rvalid_no w).mono ?_
  rintro e w' ⟨rfl, rfl⟩
  go_wp2_with fail
  go_ret
  exact ⟨rfl, rfl⟩
set_option maxHeartbeats 400000 in
theorem rtake_no2 (h : RSet w g b L) (v : Bool) :
    Calls Tryd.prog 48 #[.pointer (some ⟨g, 0, none⟩), .pointer none, .bool v] w fun e w' => e = .returned (.int .i64 1) ∧ w = w' := by
  have HV := Lib.hid (rvalid h)
  clear h
  go_enter Tryd.func48, Tryd.ntmps48
  go_wp2_with fail
  refine HV.out.mono ?_
  rintro e w' ⟨rfl, rfl⟩
  go_wp2_with fail
  refine (rvalid_no w).mono ?_
  rintro e w' ⟨rfl, rfl⟩
  go_wp2_with fail
  go_ret
  exact ⟨rfl, rfl⟩
set_option maxHeartbeats 400000 in
theorem rset_no (w : World) (j : Int) (v : Bool) :
    Calls Tryd.prog 47 #[.pointer none, .int .i64 j, .bool v] w fun e w' => e = .returned (.int .i64 1) ∧ w = w' := by
  go_enter Tryd.func47, Tryd.ntmps47
  go_wp2_with fail
  refine (rvalid_no w).mono ?_
  rintro e w' ⟨rfl, rfl⟩
  go_wp2_with fail
  go_ret
  exact ⟨rfl, rfl⟩
set_option maxHeartbeats 400000 in
theorem rall_no (w : World) :
    Calls Tryd.prog 39 #[.pointer none] w fun e w' => e = .returned (.slice none 0 0) ∧ w = w' := by
  go_enter Tryd.func39, Tryd.ntmps39
  go_wp2_with fail
  go_loopg [3, 4] 0 (fun q v3 v4 wr => v3 = .slice none 0 0 ∧ v4 = .int .i64 0 ∧ w = wr)
  case atStart => exact ⟨rfl, rfl, rfl⟩
  case round =>
    obtain ⟨rfl, rfl, rfl⟩ := hrel
    go_wp2_with fail
    refine (rvalid_no w).mono ?_
    rintro e w' ⟨rfl, rfl⟩
    go_wp2_with fail
    go_ret
    exact ⟨rfl, rfl⟩
set_option maxHeartbeats 400000 in
theorem rnext_no (w : World) (f : Int) :
    Calls Tryd.prog 35 #[.pointer none, .int .i64 f] w fun e w' => e = .returned (.tuple #[.int .i64 0, .bool false]) ∧ w = w' := by
  go_enter Tryd.func35, Tryd.ntmps35
  go_wp2_with fail
  refine (rall_no w).mono ?_
  rintro e w' ⟨rfl, rfl⟩
  go_wp2_with fail
  go_loopg [7] 0 (fun q v7 wr => v7 = .int .i64 0 ∧ w = wr)
  case atStart => exact ⟨rfl, rfl⟩
  case round =>
    obtain ⟨rfl, rfl⟩ := hrel
    go_wp2_with fail
    go_ret2
    exact ⟨rfl, rfl⟩
set_option maxHeartbeats 400000 in
theorem rhas_no (w : World) (j : Int) :
    Calls Tryd.prog 37 #[.pointer none, .int .i64 j] w fun e w' => e = .returned (.bool false) ∧ w = w' := by
  go_enter Tryd.func37, Tryd.ntmps37
  go_wp2_with fail
  refine (rvalid_no w).mono ?_
  rintro e w' ⟨rfl, rfl⟩
  go_wp2_with fail
  go_ret
  exact ⟨rfl, rfl⟩
set_option maxHeartbeats 400000 in
theorem rsize_no (w : World) :
    Calls Tryd.prog 38 #[.pointer none] w fun e w' => e = .returned (.int .i64 0) ∧ w = w' := by
  go_enter Tryd.func38, Tryd.ntmps38
  go_wp2_with fail
  refine (rvalid_no w).mono ?_
  rintro e w' ⟨rfl, rfl⟩
  go_wp2_with fail
  go_ret
  exact ⟨rfl, rfl⟩
set_option maxHeartbeats 400000 in
theorem rcopy_no (w : World) :
    Calls Tryd.prog 34 #[.pointer none] w fun e w' => e = .returned (.pointer none) ∧ w = w' := by
  go_enter Tryd.func34, Tryd.ntmps34
  go_wp2_with fail
  refine (rvalid_no w).mono ?_
  rintro e w' ⟨rfl, rfl⟩
  go_wp2_with fail
  go_ret
  exact ⟨rfl, rfl⟩
end
end Go.Proofs.YthmkaefpgcjlnaaDoor

/-
  A disk's Copy. Condition: the disk is as New makes it.
-/
import Derived.Test.YtelobbigpgfobaaDisk5
import Derived.Deep.AppendLies
import Derived.Deep.RegionLaw
namespace Go.Proofs.Ytelobbigpgfobaa
open Go.RowKit
set_option linter.unusedVariables false
section
variable {w : World} {d n : Nat} {rb : Option Nat} {lay : Lay} {D : Nat → SlotD} {p : Option Addr}
set_option maxHeartbeats 4000000 in
theorem copydisk (h : IsDisk w d rb n lay D) (hn : 0 < n) (hm34 : n ≤ 65536) :
    Calls Try.prog 29 #[.pointer (some ⟨d, 0, none⟩)] w fun e w' => ∃ d' rb' lay', e = .returned (.pointer (some ⟨d', 0, none⟩)) ∧ IsDisk w' d' rb' n lay' D ∧ (∀ k, dfoot d' rb' n lay' k → w.heap.size ≤ k) ∧ Below w.heap.size w w' := by
  obtain ⟨i0, hi0, hz0, hz1, hz2⟩ := info_parts ptr_info
  obtain ⟨A0, c0, q0, hc1, hc2, hptr⟩ := h.cells
  have hglt : d < w.heap.size := h.lt d (.inl rfl)
  have HV := Lib.hid (valid_disk h hn)
  have H0 := Lib.hid h
  have HP := Lib.hid hptr
  have HC0 : Hid (∀ W, Below w.heap.size w W → ∀ i, i < n → ∃ ad, A0 = some ad ∧ W.cell? (ad.add i) = some (.pointer (some ⟨(lay i).1, 0, none⟩))) := fun W hW i hi => by
    obtain ⟨ad, e, hc⟩ := hptr i hi
    exact ⟨ad, e, (hW.cell (block_lt_of_cell hc)).trans hc⟩
  unfold maxLen at hc2
  clear h hptr
  go_enter Try.func29, Try.ntmps29
  go_wp2_with fail
  refine HV.out.mono ?_
  rintro e w' ⟨rfl, rfl⟩
  go_wp2_with fail
  go_loopg [16] n (fun q v16 wr => ∃ (j : Nat) (rb' : Option Nat) (lay' : Lay), j + q = n ∧ v16 = .int .i64 j ∧ IsDisk wr w.heap.size rb' j lay' D ∧ (∀ k, dfoot w.heap.size rb' j lay' k → w.heap.size ≤ k) ∧ Below w.heap.size w wr)
  case atStart => exact ⟨0, none, fun _ => (0, none), by omega, rfl, isDisk_new w _ _, fun k hk => by have := dfoot_zero _ _ _ hk; omega, by go_grown⟩
  case round =>
    obtain ⟨j, rb', lay', hj, rfl, hd, hf, hb⟩ := hrel
    have hj' : j ≤ n := by omega
    have HJ := Lib.hid hj
    have HD := Lib.hid hd
    have HF := Lib.hid hf
    have HB := Lib.hid hb
    by_cases hlt : j < n
    · obtain ⟨ad, rfl, hc⟩ := HC0.out wr hb j hlt
      have hdw : IsDisk wr d rb n lay D := H0.out.below hb
      have HI := Lib.hid (hdw.img j hlt)
      obtain ⟨A4, c4, k1, k2, k3⟩ := hd.row
      have qd : wr.cell? ⟨w.heap.size, 0, none⟩ = some (.slice A4 j c4) := k1.cell 0
      have hc4 : c4 ≤ 9223372036854775807 := by
        obtain ⟨A5, c5, e5, _, h5, _⟩ := own_slice k2
        injection e5 with e6 e7 e8
        subst e8
        simpa [maxLen] using h5
      have hlt0 : w.heap.size < wr.heap.size := hd.lt w.heap.size (.inl rfl)
      have HCC : Hid (Calls Try.prog 56 #[.pointer (some ⟨(lay j).1, 0, none⟩)] wr.drew fun e w1 => ∃ g' fb', e = .returned (.pointer (some ⟨g', 0, none⟩)) ∧ w1.cell? ⟨w.heap.size, 0, none⟩ = some (.slice A4 j c4) ∧ w.heap.size < w1.heap.size ∧ w1.frozen? ⟨w.heap.size, 0, none⟩ = false ∧ Hid (IsImg w1 g' fb' (D j).bytes (D j).size (D j).dur ∧ (∀ k, foot g' fb' k → wr.heap.size ≤ k) ∧ Below wr.heap.size wr w1)) := by
        refine (copy_img (HI.out.drew)).mono ?_
        rintro e w1 ⟨g', fb', h1, h2, h3, h4, h5⟩
        have hb1 : Below wr.heap.size wr w1 := Below.trans (Below.refl _ wr).drew h5
        have k4 := k1.below hb1 hlt0
        exact ⟨g', fb', h1, k4.cell 0, Nat.lt_of_lt_of_le hlt0 hb1.size, k4.frozen 0, h2, fun k hk => by
          rcases hk with rfl | hk
          · exact h3
          · exact h4 k hk, hb1⟩
      have HK1 := Lib.hid k1
      have HK2 := Lib.hid k2
      have HK3 := Lib.hid k3
      clear hj hd hf hb hdw k1 k2 k3
      go_wp2_with fail
      go_region_law (first
        | (refine step_append_any _ (by rfl) (.tmp 24) (.tmp 27) _ (by rfl) 0 71 i0 _ 1 8 Try.underlying62 hi0 hz0 hz1 hz2 (by rfl) (by omega) (.slice A4 j c4) j (ptrsTo lay' j) (by rfl)
            ((own_below' HK2.out HI1.out.2.2).alloc _) (w1.heap.size + 1) _ 1 1 [.pointer (some ⟨g', 0, none⟩)] (by rfl) (reads_news w1 71 #[.pointer (some ⟨g', 0, none⟩)] (0, 0) 1 rfl) (one_ptr _) (by simp only [maxLen]; omega) (by omega) (Nat.zero_le _) ?_; intro v1 w4 hown1 hg1 hat1; obtain ⟨A5, c5, rfl, hA5, hc5, hr5⟩ := own_slice hown1
           have HG1 := Lib.hid hg1
           have HO1 := Lib.hid hown1
           have HA1 := Lib.hid hat1
           have hcw : w4.cell? ⟨w.heap.size, 0, none⟩ = some (.slice A4 j c4) := by
             rw [World.cell?_of_block (hg1.block w.heap.size (by simp; omega) (fun e => HD.out.ne (HK3.out.trans e.symm)))]
             rw [World.cell?_alloc_lt _ _ _ (by show w.heap.size < w1.heap.size; omega)]
             exact q1
           have hfw : w4.frozen? ⟨w.heap.size, 0, none⟩ = false := by
             rw [World.frozen?_of_block (hg1.block w.heap.size (by simp; omega) (fun e => HD.out.ne (HK3.out.trans e.symm)))]
             rw [World.frozen?_of_block (Below.heap_alloc _ _ _ (by show w.heap.size < w1.heap.size; omega))]
             exact f1
           clear hown1 hg1 hat1 hr5)
        | (go_simp; go_at_call 56; refine HCC.out.mono ?_; rintro e w1 ⟨g', fb', rfl, q1, s1, f1, HI1⟩))
      all_goals
        go_wp2_with fail
        go_roundg (gk - 1)
        case measure => have := HJ.out; omega
        case rel =>
          obtain ⟨i1, i2, i3⟩ := HI1.out
          obtain ⟨p1, p2, p3⟩ := HD.out.push (i3.alloc i3.size (.cells #[.pointer (some ⟨g', 0, none⟩)] 71)) (x := D j) (i1.chg (F := fun _ => False) (Chg.of_below ((Below.refl _ _).alloc (Nat.le_refl _) _)) (fun _ _ h => h)) i2 HO1.out (by rw [HK3.out]; exact HG1.out) (by rw [HK3.out]; exact HA1.out)
          rw [updF_id] at p1
          refine ⟨j + 1, _, _, by have := HJ.out; omega, by go_num, p1, fun k hk => ?_, HB.out.trans (p2.below HB.out.size HF.out)⟩
          rcases p3 k hk with e | e
          · exact HF.out k e
          · have := HB.out.size; omega
    · have e8 : j = n := by omega
      subst e8
      clear hj hd hf hb
      go_wp2_with fail
      go_ret
      exact ⟨_, rb', lay', rfl, HD.out, HF.out, HB.out⟩
set_option maxHeartbeats 400000 in
theorem copy_nodisk (h : NoDisk w p) :
    Calls Try.prog 29 #[.pointer p] w fun e w' => e = .returned (.pointer none) ∧ w = w' := by
  have HV := Lib.hid (valid_nodisk h)
  clear h
  go_enter Try.func29, Try.ntmps29
  go_wp2_with fail
  refine HV.out.mono ?_
  rintro e w' ⟨rfl, rfl⟩
  go_wp2_with fail
  go_ret
  exact ⟨rfl, rfl⟩
end
end Go.Proofs.Ytelobbigpgfobaa

/-
  The walk of the document's image's Copy (drumlinref09.Image); what an image and the document's show. Conditions: the images are as the methods leave them.
-/
import Derived.Test.YtbblbeppiblndaaRefImg3
namespace Go.Proofs.Ytbblbeppiblndaa
open Go.RowKit
set_option linter.unusedVariables false
set_option maxHeartbeats 1000000 in
theorem copy_ref {w : World} {g : Nat} {fb : Option Nat} {l : List (BitVec 8)} {size dur : Nat} (h : IsRef w g fb l size dur) :
    Calls Try.prog 27 #[.pointer (some ⟨g, 0, none⟩)] w fun e w' => ∃ g' fb', e = .returned (.pointer (some ⟨g', 0, none⟩)) ∧ IsRef w' g' fb' l size dur ∧ w.heap.size ≤ g' ∧ (∀ k, fb' = some k → w.heap.size ≤ k) ∧ Below w.heap.size w w' := by
  have hnum := h.nums
  obtain ⟨A, n, c, h, rfl⟩ := h
  have H := Lib.hid h
  have hl := h.len
  have hglt : g < w.heap.size := h.blk.lt
  obtain ⟨hc1, hc2⟩ := h.cap
  subst hl
  have HBL := Lib.hid h.blk
  have HRA : Hid (Reads (w.alloc (.cells #[] 5)) w.heap.size 1 A l.length (u8s l)) := h.reads.alloc (Nat.le_refl _) _
  clear h
  have c0 : w.cell? ⟨g, 0, none⟩ = some (.slice A l.length c) := by rw [H.out.blk.cell]; rfl
  have c1 : w.cell? ⟨g, 1, none⟩ = some (.int .i64 (dur : Int)) := by rw [H.out.blk.cell]; rfl
  have c2 : w.cell? ⟨g, 2, none⟩ = some (.int .i64 (size : Int)) := by rw [H.out.blk.cell]; rfl
  obtain ⟨i0, hi0, hz0, hz1, hz2⟩ := info_parts u8_info
  have HO := Lib.hid (made0 w)
  go_enter Try.func27, Try.ntmps27
  go_wp2_with (go_at_call 37; refine (valid_ref H.out).mono ?_; rintro e w' ⟨rfl, rfl⟩)
  go_region_law ((refine step_append_any _ (by rfl) (.tmp 6) (.tmp 10) _ (by rfl) w.heap.size 5 i0 _ 1 1 Try.underlying25 hi0 hz0 hz1 hz2 (by rfl) (by omega) (.slice (some ⟨w.heap.size, 0, none⟩) 0 0) 0 [] (by rfl) HO.out w.heap.size A l.length c (u8s l) (by rfl) HRA.out (u8s_one _) (by simp only [maxLen]; omega) (by omega) (by simp) ?_; intro v2 w2 hown1 hg1 hat1; have HO2 := Lib.hid hown1; have HB2 := Lib.hid ((((Below.refl w.heap.size w).alloc (Nat.le_refl _) (.cells #[] 5)).drew).grown hg1 (by simp) (by intro q hq; simp [Value.ownBlock] at hq; omega)); obtain ⟨A3, c3, rfl, _, _, _⟩ := own_slice hown1; have d1 : w2.cell? ⟨g, 1, none⟩ = some (.int .i64 (dur : Int)) := ((HBL.out.below HB2.out hglt).cell 1).trans rfl; have d2 : w2.cell? ⟨g, 2, none⟩ = some (.int .i64 (size : Int)) := ((HBL.out.below HB2.out hglt).cell 2).trans rfl; clear hown1 hg1 hat1))
  all_goals
    go_wp2_with fail
    go_ret
    have hlt3 : ∀ k, (Value.slice A3 (0 + l.length) c3).ownBlock = some k → w.heap.size ≤ k ∧ k < w2.heap.size := fun k hk => HO2.out.lt k hk
    have ho3 := HO2.out
    rw [Nat.zero_add, List.nil_append] at ho3
    rw [Nat.zero_add] at hlt3
    refine ⟨w2.heap.size, _, rfl, ⟨A3, l.length, c3, ⟨Blk.new w2 _ _, own_base (own_below' ho3 ((Below.refl _ _).alloc (Nat.le_refl _) _)) (fun _ _ => Nat.zero_le _), fun e => by have := hlt3 _ e; omega, hnum.1, hnum.2.1, hnum.2.2.1, hnum.2.2.2⟩, rfl⟩, HB2.out.size, fun k hk => (hlt3 k hk).1, HB2.out.alloc HB2.out.size _⟩
end Go.Proofs.Ytbblbeppiblndaa

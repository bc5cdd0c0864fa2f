/-
  The walk of the image laws' shows: an image and the document's that hold the same show the same. Condition: both are as the methods leave them.
-/
import Derived.Test.YtbblbeppiblndaaRefImg4
namespace Go.Proofs.Ytbblbeppiblndaa
open Go.RowKit
set_option linter.unusedVariables false
theorem IsImg.below {w w' : World} {g : Nat} {fb : Option Nat} {l : List (BitVec 8)} {size dur : Nat} (h : IsImg w g fb l size dur) (hb : Below w.heap.size w w') : IsImg w' g fb l size dur := h.chg (F := fun _ => False) (Chg.of_below hb) (fun _ _ h => h)
theorem IsRef.below {w w' : World} {g : Nat} {fb : Option Nat} {l : List (BitVec 8)} {size dur : Nat} (h : IsRef w g fb l size dur) (hb : Below w.heap.size w w') : IsRef w' g fb l size dur := h.chg (F := fun _ => False) (Chg.of_below hb) (fun _ _ h => h)
theorem IsRef.bytes {w : World} {g : Nat} {fb : Option Nat} {l : List (BitVec 8)} {size dur : Nat} (h : IsRef w g fb l size dur) : ∃ v, w.cell? ⟨g, 0, none⟩ = some v ∧ Holds w v l := by
  obtain ⟨A, n, c, h, rfl⟩ := h
  refine ⟨.slice A n c, by rw [h.blk.cell]; rfl, ?_⟩
  exact Holds.of_own h.own
theorem bel_drewN (w : World) (q : Nat) : Below w.heap.size w (w.drewN q) := ⟨rfl, rfl, rfl, Nat.le_refl _, fun _ _ => rfl⟩
set_option maxHeartbeats 2000000 in
theorem shows_any {w : World} {g g' : Nat} {fb fb' : Option Nat} {l : List (BitVec 8)} {size dur : Nat} (hi : IsImg w g fb l size dur) (hr : IsRef w g' fb' l size dur) (off n : Int) :
    Calls Try.prog 28 #[.pointer (some ⟨g, 0, none⟩), .pointer (some ⟨g', 0, none⟩), .int .i64 off, .int .i64 n] w fun e w' => e = .returned (.bool true) ∧ Below w.heap.size w w' := by
  have HI := Lib.hid hi
  have HR := Lib.hid hr
  have hnum := hi.nums
  clear hi hr
  rcases bad_or l.length off n with hbad | ⟨a, b, rfl, rfl, hab⟩
  · have HBAD := Lib.hid hbad
    clear hbad
    go_enter Try.func28, Try.ntmps28
    go_wp2_with fail
    refine (read_img_bad HI.out _ _ HBAD.out).mono ?_
    rintro e w1 ⟨rfl, rfl⟩
    go_wp2_with fail
    refine (read_ref_bad HR.out _ _ HBAD.out).mono ?_
    rintro e w1 ⟨rfl, rfl⟩
    go_wp2_with fail
    refine (len_img HI.out).mono ?_
    rintro e w1 ⟨rfl, rfl⟩
    go_wp2_with fail
    refine (read_img HI.out 0 l.length (by omega)).mono ?_
    rintro e w3 ⟨v3, rfl, ho3, hb3⟩
    have HB3 := Lib.hid hb3
    have HV3 : Hid (Holds w3 v3 l) := by have := Holds.of_own ho3; show Holds _ _ _; simpa using this
    have HI3 := Lib.hid (HI.out.below hb3)
    have HR3 := Lib.hid (HR.out.below hb3)
    clear ho3 hb3
    go_wp2_with fail
    refine (eq_holds (holds_nil _) (holds_nil _)).mono ?_
    rw [decide_eq_true rfl]
    rintro e w4 ⟨rfl, rfl⟩
    go_wp2_with fail
    refine (len_img HI3.out).mono ?_
    rintro e w1 ⟨rfl, rfl⟩
    go_wp2_with fail
    refine (len_ref HR3.out).mono ?_
    rintro e w1 ⟨rfl, rfl⟩
    go_wp2_with fail
    refine (durable_img HI3.out).mono ?_
    rintro e w1 ⟨rfl, rfl⟩
    go_wp2_with fail
    refine (durable_ref HR3.out).mono ?_
    rintro e w1 ⟨rfl, rfl⟩
    go_wp2_with fail
    refine (room_img HI3.out).mono ?_
    rintro e w1 ⟨rfl, q, rfl⟩
    go_wp2_with fail
    refine (room_ref (HR3.out.below (bel_drewN _ _))).mono ?_
    rintro e w1 ⟨rfl, q2, rfl⟩
    have hbw := Lib.hid (Below.trans (bel_drewN w3 q) (bel_drewN (w3.drewN q) q2))
    generalize (w3.drewN q).drewN q2 = w4 at hbw
    have HI4 := Lib.hid (HI3.out.below hbw.out)
    have HR4 := Lib.hid (HR3.out.below hbw.out)
    obtain ⟨vb, cb, hvb⟩ := HR4.out.bytes
    have HVB := Lib.hid hvb
    have HV4 := Lib.hid (HV3.out.below hbw.out)
    clear hvb
    go_wp2_with fail
    refine (size_img HI4.out).mono ?_
    rintro e w1 ⟨rfl, rfl⟩
    go_wp2_with fail
    refine (size_ref HR4.out).mono ?_
    rintro e w1 ⟨rfl, rfl⟩
    go_wp2_with fail
    refine (eq_holds HV4.out HVB.out).mono ?_
    rw [decide_eq_true rfl]
    rintro e w5 ⟨rfl, rfl⟩
    go_wp2_with fail
    go_ret
    exact ⟨by simp, bt HB3.out hbw.out⟩
  · go_enter Try.func28, Try.ntmps28
    go_wp2_with fail
    refine (read_img HI.out a b hab).mono ?_
    rintro e w1 ⟨v1, rfl, ho1, hb1⟩
    have HV1 := Lib.hid (Holds.of_own ho1)
    have HI1 := Lib.hid (HI.out.below hb1)
    have HR1 := Lib.hid (HR.out.below hb1)
    have HB1 := Lib.hid hb1
    clear ho1 hb1
    go_wp2_with fail
    refine (read_ref HR1.out a b hab).mono ?_
    rintro e w2 ⟨v2, rfl, ho2, hb2⟩
    have HV2 := Lib.hid (Holds.of_own ho2)
    have HV12 := Lib.hid (HV1.out.below hb2)
    have HI2 := Lib.hid (HI1.out.below hb2)
    have HR2 := Lib.hid (HR1.out.below hb2)
    have HB2 := Lib.hid (bt HB1.out hb2)
    clear ho2 hb2
    go_wp2_with fail
    refine (len_img HI2.out).mono ?_
    rintro e w3 ⟨rfl, rfl⟩
    go_wp2_with fail
    refine (read_img HI2.out 0 l.length (by omega)).mono ?_
    rintro e w3 ⟨v3, rfl, ho3, hb3⟩
    have HB3 := Lib.hid (bt HB2.out hb3)
    have HV3 : Hid (Holds w3 v3 l) := by have := Holds.of_own ho3; show Holds _ _ _; simpa using this
    have HV13 := Lib.hid (HV12.out.below hb3)
    have HV23 := Lib.hid (HV2.out.below hb3)
    have HI3 := Lib.hid (HI2.out.below hb3)
    have HR3 := Lib.hid (HR2.out.below hb3)
    clear ho3 hb3
    go_wp2_with fail
    refine (eq_holds HV13.out HV23.out).mono ?_
    rw [decide_eq_true rfl]
    rintro e w4 ⟨rfl, rfl⟩
    go_wp2_with fail
    refine (len_img HI3.out).mono ?_
    rintro e w1 ⟨rfl, rfl⟩
    go_wp2_with fail
    refine (len_ref HR3.out).mono ?_
    rintro e w1 ⟨rfl, rfl⟩
    go_wp2_with fail
    refine (durable_img HI3.out).mono ?_
    rintro e w1 ⟨rfl, rfl⟩
    go_wp2_with fail
    refine (durable_ref HR3.out).mono ?_
    rintro e w1 ⟨rfl, rfl⟩
    go_wp2_with fail
    refine (room_img HI3.out).mono ?_
    rintro e w1 ⟨rfl, q, rfl⟩
    go_wp2_with fail
    refine (room_ref (HR3.out.below (bel_drewN _ _))).mono ?_
    rintro e w1 ⟨rfl, q2, rfl⟩
    have hbw := Lib.hid (Below.trans (bel_drewN w3 q) (bel_drewN (w3.drewN q) q2))
    generalize (w3.drewN q).drewN q2 = w4 at hbw
    have HI4 := Lib.hid (HI3.out.below hbw.out)
    have HR4 := Lib.hid (HR3.out.below hbw.out)
    obtain ⟨vb, cb, hvb⟩ := HR4.out.bytes
    have HVB := Lib.hid hvb
    have HV4 := Lib.hid (HV3.out.below hbw.out)
    clear hvb
    go_wp2_with fail
    refine (size_img HI4.out).mono ?_
    rintro e w1 ⟨rfl, rfl⟩
    go_wp2_with fail
    refine (size_ref HR4.out).mono ?_
    rintro e w1 ⟨rfl, rfl⟩
    go_wp2_with fail
    refine (eq_holds HV4.out HVB.out).mono ?_
    rw [decide_eq_true rfl]
    rintro e w5 ⟨rfl, rfl⟩
    go_wp2_with fail
    go_ret
    exact ⟨by simp, bt HB3.out hbw.out⟩
end Go.Proofs.Ytbblbeppiblndaa

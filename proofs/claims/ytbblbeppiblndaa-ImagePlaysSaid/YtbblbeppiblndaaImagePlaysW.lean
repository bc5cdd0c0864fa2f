/-
  The walk of the law ImagePlays: it returns true and writes nothing that was there. No condition.
-/
import Derived.Test.YtbblbeppiblndaaSteps
namespace Go.Proofs.Ytbblbeppiblndaa
open Go.RowKit
set_option linter.unusedVariables false
/-- What was copied: nothing yet, or an image and the document's that hold the same. -/
def OldOk (v16 v17 : Value) (os : List Ob) : Prop := (v16 = .pointer none ∧ v17 = .pointer none ∧ os = []) ∨ ∃ g fb g' fb' l size dur, v16 = .pointer (some ⟨g, 0, none⟩) ∧ v17 = .pointer (some ⟨g', 0, none⟩) ∧ os = [imgOb g fb l size dur, refOb g' fb' l size dur]
/-- The walk's state: an image, the document's, what was copied. -/
def PlayAt (B : Nat) (w0 w : World) (v12 v14 v16 v17 : Value) (size : Nat) : Prop :=
  ∃ g fb g' fb' l dur os, v12 = .pointer (some ⟨g, 0, none⟩) ∧ v14 = .pointer (some ⟨g', 0, none⟩) ∧ Sep B w0 w (imgOb g fb l size dur :: refOb g' fb' l size dur :: os) ∧ OldOk v16 v17 os
set_option maxRecDepth 20000 in
set_option maxHeartbeats 8000000 in
theorem ImagePlays_w (size : Int) (A : Option Addr) (nl cl : Nat) (off n : Int) (w : World) (hm : StepsAt w w.heap.size A nl) (hn : nl ≤ cl) (hc : cl ≤ maxLen) :
    Calls Try.prog 6 #[.int .i64 size, .slice A nl cl, .int .i64 off, .int .i64 n] w fun e w' => e = .returned (.bool true) ∧ Below w.heap.size w w' := by
  obtain ⟨m, hmin, hmn⟩ : ∃ m : Nat, (if (101 : Int) < (nl : Int) then (101 : Int) else (nl : Int)) = (m : Int) ∧ m ≤ nl := by
    by_cases h : (101 : Int) < (nl : Int)
    · exact ⟨101, by rw [if_pos h]; rfl, by omega⟩
    · exact ⟨nl, by rw [if_neg h], Nat.le_refl _⟩
  have HMS := Lib.hid hm
  have HMIN := Lib.hid hmin
  unfold maxLen at hc
  clear hm hmin
  go_enter Try.func6, Try.ntmps6
  go_wp2_with (with_reducible refine wpList_min rfl _ _ _ _ _ _ _ rfl rfl rfl HMIN.out ?_)
  go_loopg [9, 28] m (fun q v9 v28 wr => ∃ (j : Nat) (x : Int), j + q = m ∧ v28 = .int .i64 j ∧ v9 = .int .i64 x ∧ Below w.heap.size w wr)
  case atStart => exact ⟨0, 0, by omega, rfl, rfl, Below.refl _ _⟩
  case round =>
    obtain ⟨j, x, hj, rfl, rfl, hb⟩ := hrel
    have HJ := Lib.hid hj
    have HB := Lib.hid hb
    have hsz := hb.size
    clear hj hb
    by_cases hlt : j < m
    · obtain ⟨ad, d, v, b, k, hst⟩ := HMS.out j (by omega)
      have hst' := hst.below HB.out
      obtain ⟨A1, n1, c1, rfl, hb1, hb2, hb3, hb4⟩ := hst.hv
      have c0 := hst'.c0
      have c1' := hst'.c1
      have c2 := hst'.c2
      obtain rfl := hst.a
      clear hst hst' hb1 hb4
      unfold maxLen at hb3
      go_wp2_with fail
      go_roundg (gk - 1)
      case measure => have := HJ.out; omega
      case rel => exact ⟨j + 1, _, by have := HJ.out; omega, by go_num, rfl, HB.out.alloc hsz _⟩
    · obtain ⟨wo, hwo⟩ : ∃ wo : World, wo = wr := ⟨_, rfl⟩
      rw [← hwo] at HB hsz ⊢
      clear hwo HJ
      by_cases hbig : 100 < nl ∨ 3000 < x
      · rcases hbig with hbig | hbig
        · go_wp2_with fail
          refine (works_any _).mono ?_
          rintro e w9 ⟨rfl, hb⟩
          go_wp2
          go_ret
          exact ⟨rfl, bt HB.out hb⟩
        · by_cases hbig1 : 100 < nl
          · go_wp2_with fail
            refine (works_any _).mono ?_
            rintro e w9 ⟨rfl, hb⟩
            go_wp2
            go_ret
            exact ⟨rfl, bt HB.out hb⟩
          · have d1 : decide ((3000 : Int) < x) = true := by simpa using hbig
            have d2 : decide ((100 : Int) < (nl : Int)) = false := by simp; omega
            go_wp2_with fail
            refine (works_any _).mono ?_
            rintro e w9 ⟨rfl, hb⟩
            go_wp2
            go_ret
            exact ⟨rfl, bt HB.out hb⟩
      · have d1 : decide ((3000 : Int) < x) = false := by simp; omega
        have d2 : decide ((100 : Int) < (nl : Int)) = false := by simp; omega
        by_cases hsize : 1 ≤ size ∧ size ≤ 8192
        · obtain ⟨sz, rfl⟩ : ∃ sz : Nat, size = (sz : Int) := ⟨size.toNat, by omega⟩
          have HS0 : Hid (Sep w.heap.size w wo []) := ⟨HB.out, hsz, (fun o ho => by cases ho), List.Pairwise.nil⟩
          go_wp2_with fail
          refine (sep_new HS0.out sz (by omega) (by omega)).mono ?_
          rintro e w1 ⟨g, rfl, hs⟩
          have HS1 := Lib.hid hs
          clear hs
          go_wp2_with fail
          refine (sep_new_ref HS1.out sz (by omega) (by omega)).mono ?_
          rintro e w2 ⟨g', rfl, hs⟩
          have HS2 := Lib.hid (hs.perm (.swap _ _ _))
          clear hs
          go_wp2_with fail
          clear d1 d2
          go_loopg [12, 14, 16, 17, 71] nl (fun q v12 v14 v16 v17 v71 wr => ∃ j : Nat, j + q = nl ∧ v71 = .int .i64 j ∧ PlayAt w.heap.size w wr v12 v14 v16 v17 sz)
          case atStart => exact ⟨0, by omega, rfl, g, none, g', none, [], 0, [], rfl, rfl, HS2.out, .inl ⟨rfl, rfl, rfl⟩⟩
          case round =>
            obtain ⟨j, hj, rfl, g, fb, g', fb', l, dur, os, rfl, rfl, hs, hold⟩ := hrel
            have HJ := Lib.hid hj
            have HS := Lib.hid hs
            have HOLD := Lib.hid hold
            have hnum : l.length ≤ sz := (show IsImg wr g fb l sz dur from hs.get (.head _)).nums.2.1
            clear hj hs hold
            by_cases hlt : j < nl
            · obtain ⟨ad, d, v, b, k, hst⟩ := HMS.out j (by omega)
              have hst' := hst.below HS.out.bel
              have HV := Lib.hid hst.hv
              obtain rfl := hst.a
              have k0 := hst.n0
              have k1 := hst.n1
              have c0 := hst'.c0
              have c1 := hst'.c1
              have c2 := hst'.c2
              clear hst hst'
              -- the step's copy
              have HA : Hid (Sep w.heap.size w (wr.alloc (.cells #[.int .i64 d, v, .int .i64 k] 45)) (blkOb wr.heap.size 45 #[.int .i64 d, v, .int .i64 k] :: imgOb g fb l sz dur :: refOb g' fb' l sz dur :: os)) :=
                HS.out.add (a := blkOb wr.heap.size 45 #[.int .i64 d, v, .int .i64 k]) ((Below.refl _ _).alloc (Nat.le_refl _) _) (Blk.new _ _ _) (fun k hk => by have : k = wr.heap.size := hk; omega)
              clear HS
              obtain ⟨A1, n1, c1', rfl, hb1, hb2, hb3, hb4⟩ := HV.out
              clear hb4 hb1
              obtain ⟨w2, hw2⟩ : ∃ w2, w2 = wr.alloc (.cells #[.int .i64 d, .slice A1 n1 c1', .int .i64 k] 45) := ⟨_, rfl⟩
              have HW2 := Lib.hid hw2
              rw [← hw2] at HA
              clear hw2
              have HVW : Hid (∀ W, Below w.heap.size w W → Holds W (.slice A1 n1 c1') b) := fun W hW => HV.out.below hW
              have HC1 : Hid (∀ W o os', Sep w.heap.size w W (blkOb wr.heap.size 45 #[.int .i64 d, .slice A1 n1 c1', .int .i64 k] :: o :: os') → W.cell? ⟨wr.heap.size, 1, none⟩ = some (.slice A1 n1 c1')) := fun W o os' h => ((h.get (.head _) : Blk W _ _ _).cell 1).trans rfl
              have HC2 : Hid (∀ W o os', Sep w.heap.size w W (blkOb wr.heap.size 45 #[.int .i64 d, .slice A1 n1 c1', .int .i64 k] :: o :: os') → W.cell? ⟨wr.heap.size, 2, none⟩ = some (.int .i64 k)) := fun W o os' h => ((h.get (.head _) : Blk W _ _ _).cell 2).trans rfl
              by_cases e0 : d = 0
              · subst e0
                by_cases hfit : l.length + b.length ≤ sz
                · have CA : Hid (∀ W, Below w2.heap.size w2 W → Calls Try.prog 19 #[.pointer (some ⟨g, 0, none⟩), .slice A1 n1 c1'] W fun e W' => e = .returned (.int .i64 0) ∧ W'.cell? ⟨wr.heap.size, 1, none⟩ = some (.slice A1 n1 c1') ∧ ∃ fb1, Sep w.heap.size w W' (blkOb wr.heap.size 45 #[.int .i64 0, .slice A1 n1 c1', .int .i64 k] :: imgOb g fb1 (l ++ b) sz dur :: refOb g' fb' l sz dur :: os)) := fun W hW =>
                    (sep_append (HA.out.below hW) (HVW.out _ (HA.out.below hW).bel) hfit).mono fun e W' ⟨h1, fb1, h2⟩ => ⟨h1, HC1.out _ _ _ h2, fb1, h2⟩
                  have CR : Hid (∀ W fb1, Sep w.heap.size w W (blkOb wr.heap.size 45 #[.int .i64 0, .slice A1 n1 c1', .int .i64 k] :: imgOb g fb1 (l ++ b) sz dur :: refOb g' fb' l sz dur :: os) → Calls Try.prog 20 #[.pointer (some ⟨g', 0, none⟩), .slice A1 n1 c1'] W fun e W' => e = .returned (.int .i64 0) ∧ W'.cell? ⟨wr.heap.size, 1, none⟩ = some (.slice A1 n1 c1') ∧ ∃ fb2, Sep w.heap.size w W' (blkOb wr.heap.size 45 #[.int .i64 0, .slice A1 n1 c1', .int .i64 k] :: imgOb g fb1 (l ++ b) sz dur :: refOb g' fb2 (l ++ b) sz dur :: os)) := fun W fb1 hW =>
                    (sep_append_ref hW (HVW.out _ hW.bel) hfit).mono fun e W' ⟨h1, fb2, h2⟩ => ⟨h1, HC1.out _ _ _ h2, fb2, h2⟩
                  clear hfit
                  go_wp2_with fail
                  rw [← HW2.out]
                  have hq1 := HC1.out _ _ _ HA.out
                  go_region_held3 (fun w' => w'.cell? ⟨wr.heap.size, 1, none⟩ = some (.slice A1 n1 c1')) (first | go_keep | assumption) (first | (go_at_call 19; refine (CA.out _ (by first | exact Below.refl _ _ | exact (Below.refl _ _).drew)).mono ?_; rintro e w4 ⟨rfl, hq2, fb1, hs4⟩) | (go_at_call 20; refine (CR.out _ _ (by assumption)).mono ?_; rintro e w5 ⟨rfl, hq3, fb2, hs5⟩))
                  all_goals
                    have HX := Lib.hid (hs5.sub (List.sublist_cons_self _ _))
                    clear hs4 hs5
                    go_wp2_with fail
                    refine (shows_any (HX.out.get (.head _)) (HX.out.get (.tail _ (.head _))) off n).mono ?_
                    rintro e wA ⟨rfl, hb⟩
                    have HY := Lib.hid (HX.out.below hb)
                    clear hb
                    rcases HOLD.out with ⟨rfl, rfl, rfl⟩ | ⟨go, fbo, go', fbo', lo, szo, duro, rfl, rfl, rfl⟩
                    · go_wp2_with fail
                      go_roundg (gk - 1)
                      case measure => have := HJ.out; omega
                      case rel => exact ⟨j + 1, by have := HJ.out; omega, by go_num, _, _, _, _, _, _, _, rfl, rfl, HY.out, .inl ⟨rfl, rfl, rfl⟩⟩
                    · go_wp2_with fail
                      refine (shows_any (HY.out.get (.tail _ (.tail _ (.head _)))) (HY.out.get (.tail _ (.tail _ (.tail _ (.head _))))) off n).mono ?_
                      rintro e wB ⟨rfl, hb⟩
                      have HZ := Lib.hid (HY.out.below hb)
                      clear hb
                      go_wp2_with fail
                      go_roundg (gk - 1)
                      case measure => have := HJ.out; omega
                      case rel => exact ⟨j + 1, by have := HJ.out; omega, by go_num, _, _, _, _, _, _, _, rfl, rfl, HZ.out, .inr ⟨_, _, _, _, _, _, _, rfl, rfl, rfl⟩⟩
                · have CA : Hid (∀ W, Below w2.heap.size w2 W → Calls Try.prog 19 #[.pointer (some ⟨g, 0, none⟩), .slice A1 n1 c1'] W fun e W' => e = .returned (.int .i64 4) ∧ W'.cell? ⟨wr.heap.size, 1, none⟩ = some (.slice A1 n1 c1') ∧ Sep w.heap.size w W' (blkOb wr.heap.size 45 #[.int .i64 0, .slice A1 n1 c1', .int .i64 k] :: imgOb g fb l sz dur :: refOb g' fb' l sz dur :: os)) := fun W hW =>
                    (sep_append_full (HA.out.below hW) (HVW.out _ (HA.out.below hW).bel) (by omega)).mono fun e W' ⟨h1, h2⟩ => ⟨h1, HC1.out _ _ _ h2, h2⟩
                  have CR : Hid (∀ W, Sep w.heap.size w W (blkOb wr.heap.size 45 #[.int .i64 0, .slice A1 n1 c1', .int .i64 k] :: imgOb g fb l sz dur :: refOb g' fb' l sz dur :: os) → Calls Try.prog 20 #[.pointer (some ⟨g', 0, none⟩), .slice A1 n1 c1'] W fun e W' => e = .returned (.int .i64 4) ∧ W'.cell? ⟨wr.heap.size, 1, none⟩ = some (.slice A1 n1 c1') ∧ Sep w.heap.size w W' (blkOb wr.heap.size 45 #[.int .i64 0, .slice A1 n1 c1', .int .i64 k] :: imgOb g fb l sz dur :: refOb g' fb' l sz dur :: os)) := fun W hW =>
                    (sep_append_full_ref hW (HVW.out _ hW.bel) (by omega)).mono fun e W' ⟨h1, h2⟩ => ⟨h1, HC1.out _ _ _ h2, h2⟩
                  clear hfit
                  go_wp2_with fail
                  rw [← HW2.out]
                  have hq1 := HC1.out _ _ _ HA.out
                  go_region_held3 (fun w' => w'.cell? ⟨wr.heap.size, 1, none⟩ = some (.slice A1 n1 c1')) (first | go_keep | assumption) (first | (go_at_call 19; refine (CA.out _ (by first | exact Below.refl _ _ | exact (Below.refl _ _).drew)).mono ?_; rintro e w4 ⟨rfl, hq2, hs4⟩) | (go_at_call 20; refine (CR.out _ (by assumption)).mono ?_; rintro e w5 ⟨rfl, hq3, hs5⟩))
                  all_goals
                    have HX := Lib.hid (hs5.sub (List.sublist_cons_self _ _))
                    clear hs4 hs5
                    go_wp2_with fail
                    refine (shows_any (HX.out.get (.head _)) (HX.out.get (.tail _ (.head _))) off n).mono ?_
                    rintro e wA ⟨rfl, hb⟩
                    have HY := Lib.hid (HX.out.below hb)
                    clear hb
                    rcases HOLD.out with ⟨rfl, rfl, rfl⟩ | ⟨go, fbo, go', fbo', lo, szo, duro, rfl, rfl, rfl⟩
                    · go_wp2_with fail
                      go_roundg (gk - 1)
                      case measure => have := HJ.out; omega
                      case rel => exact ⟨j + 1, by have := HJ.out; omega, by go_num, _, _, _, _, _, _, _, rfl, rfl, HY.out, .inl ⟨rfl, rfl, rfl⟩⟩
                    · go_wp2_with fail
                      refine (shows_any (HY.out.get (.tail _ (.tail _ (.head _)))) (HY.out.get (.tail _ (.tail _ (.tail _ (.head _))))) off n).mono ?_
                      rintro e wB ⟨rfl, hb⟩
                      have HZ := Lib.hid (HY.out.below hb)
                      clear hb
                      go_wp2_with fail
                      go_roundg (gk - 1)
                      case measure => have := HJ.out; omega
                      case rel => exact ⟨j + 1, by have := HJ.out; omega, by go_num, _, _, _, _, _, _, _, rfl, rfl, HZ.out, .inr ⟨_, _, _, _, _, _, _, rfl, rfl, rfl⟩⟩
              by_cases e1 : d = 1
              · subst e1
                go_wp2_with fail
                rw [← HW2.out]
                refine (sep_sync HA.out).mono ?_
                rintro e w3 ⟨rfl, hs⟩
                have HB3 := Lib.hid hs
                clear hs
                go_wp2_with fail
                refine (sep_sync_ref HB3.out).mono ?_
                rintro e w4 ⟨rfl, hs⟩
                have HX := Lib.hid (hs.sub (List.sublist_cons_self _ _))
                clear hs
                go_wp2_with fail
                refine (shows_any (HX.out.get (.head _)) (HX.out.get (.tail _ (.head _))) off n).mono ?_
                rintro e wA ⟨rfl, hb⟩
                have HY := Lib.hid (HX.out.below hb)
                clear hb
                rcases HOLD.out with ⟨rfl, rfl, rfl⟩ | ⟨go, fbo, go', fbo', lo, szo, duro, rfl, rfl, rfl⟩
                · go_wp2_with fail
                  go_roundg (gk - 1)
                  case measure => have := HJ.out; omega
                  case rel => exact ⟨j + 1, by have := HJ.out; omega, by go_num, _, _, _, _, _, _, _, rfl, rfl, HY.out, .inl ⟨rfl, rfl, rfl⟩⟩
                · go_wp2_with fail
                  refine (shows_any (HY.out.get (.tail _ (.tail _ (.head _)))) (HY.out.get (.tail _ (.tail _ (.tail _ (.head _))))) off n).mono ?_
                  rintro e wB ⟨rfl, hb⟩
                  have HZ := Lib.hid (HY.out.below hb)
                  clear hb
                  go_wp2_with fail
                  go_roundg (gk - 1)
                  case measure => have := HJ.out; omega
                  case rel => exact ⟨j + 1, by have := HJ.out; omega, by go_num, _, _, _, _, _, _, _, rfl, rfl, HZ.out, .inr ⟨_, _, _, _, _, _, _, rfl, rfl, rfl⟩⟩
              by_cases e2 : d = 2
              · subst e2
                by_cases hneg : k < 0
                · have CA : Hid (∀ W, Below w2.heap.size w2 W → Calls Try.prog 13 #[.pointer (some ⟨g, 0, none⟩), .int .i64 k] W fun e W' => e = .returned (.int .i64 2) ∧ W'.cell? ⟨wr.heap.size, 2, none⟩ = some (.int .i64 k) ∧ Sep w.heap.size w W' (blkOb wr.heap.size 45 #[.int .i64 2, .slice A1 n1 c1', .int .i64 k] :: imgOb g fb l sz dur :: refOb g' fb' l sz dur :: os)) := fun W hW =>
                    (crash_img_neg (show IsImg W g fb l sz dur from (HA.out.below hW).get (.tail _ (.head _))) k hneg).mono fun e W' ⟨h1, h2⟩ => ⟨h1, by rw [← h2]; exact HC2.out _ _ _ (HA.out.below hW), by rw [← h2]; exact HA.out.below hW⟩
                  have CR : Hid (∀ W, Sep w.heap.size w W (blkOb wr.heap.size 45 #[.int .i64 2, .slice A1 n1 c1', .int .i64 k] :: imgOb g fb l sz dur :: refOb g' fb' l sz dur :: os) → Calls Try.prog 23 #[.pointer (some ⟨g', 0, none⟩), .int .i64 k] W fun e W' => e = .returned (.int .i64 2) ∧ W'.cell? ⟨wr.heap.size, 2, none⟩ = some (.int .i64 k) ∧ Sep w.heap.size w W' (blkOb wr.heap.size 45 #[.int .i64 2, .slice A1 n1 c1', .int .i64 k] :: imgOb g fb l sz dur :: refOb g' fb' l sz dur :: os)) := fun W hW =>
                    (crash_ref_neg (show IsRef W g' fb' l sz dur from hW.get (.tail _ (.tail _ (.head _)))) k hneg).mono fun e W' ⟨h1, h2⟩ => ⟨h1, by rw [← h2]; exact HC2.out _ _ _ hW, by rw [← h2]; exact hW⟩
                  clear hneg
                  go_wp2_with fail
                  rw [← HW2.out]
                  have hq1 := HC2.out _ _ _ HA.out
                  go_region_held3 (fun w' => w'.cell? ⟨wr.heap.size, 2, none⟩ = some (.int .i64 k)) (first | go_keep | assumption) (first | (go_at_call 13; refine (CA.out _ (by first | exact Below.refl _ _ | exact (Below.refl _ _).drew)).mono ?_; rintro e w4 ⟨rfl, hq2, hs4⟩) | (go_at_call 23; refine (CR.out _ (by assumption)).mono ?_; rintro e w5 ⟨rfl, hq3, hs5⟩))
                  all_goals
                    have HX := Lib.hid (hs5.sub (List.sublist_cons_self _ _))
                    clear hs4 hs5
                    go_wp2_with fail
                    refine (shows_any (HX.out.get (.head _)) (HX.out.get (.tail _ (.head _))) off n).mono ?_
                    rintro e wA ⟨rfl, hb⟩
                    have HY := Lib.hid (HX.out.below hb)
                    clear hb
                    rcases HOLD.out with ⟨rfl, rfl, rfl⟩ | ⟨go, fbo, go', fbo', lo, szo, duro, rfl, rfl, rfl⟩
                    · go_wp2_with fail
                      go_roundg (gk - 1)
                      case measure => have := HJ.out; omega
                      case rel => exact ⟨j + 1, by have := HJ.out; omega, by go_num, _, _, _, _, _, _, _, rfl, rfl, HY.out, .inl ⟨rfl, rfl, rfl⟩⟩
                    · go_wp2_with fail
                      refine (shows_any (HY.out.get (.tail _ (.tail _ (.head _)))) (HY.out.get (.tail _ (.tail _ (.tail _ (.head _))))) off n).mono ?_
                      rintro e wB ⟨rfl, hb⟩
                      have HZ := Lib.hid (HY.out.below hb)
                      clear hb
                      go_wp2_with fail
                      go_roundg (gk - 1)
                      case measure => have := HJ.out; omega
                      case rel => exact ⟨j + 1, by have := HJ.out; omega, by go_num, _, _, _, _, _, _, _, rfl, rfl, HZ.out, .inr ⟨_, _, _, _, _, _, _, rfl, rfl, rfl⟩⟩
                · obtain ⟨mm, hmm⟩ : ∃ mm, mm = dur + min k.toNat (l.length - dur) := ⟨_, rfl⟩
                  have CA : Hid (∀ W, Below w2.heap.size w2 W → Calls Try.prog 13 #[.pointer (some ⟨g, 0, none⟩), .int .i64 k] W fun e W' => e = .returned (.int .i64 0) ∧ W'.cell? ⟨wr.heap.size, 2, none⟩ = some (.int .i64 k) ∧ Sep w.heap.size w W' (blkOb wr.heap.size 45 #[.int .i64 2, .slice A1 n1 c1', .int .i64 k] :: imgOb g fb (l.take mm) sz mm :: refOb g' fb' l sz dur :: os)) := fun W hW =>
                    (sep_crash (HA.out.below hW) k (by omega) k1 mm hmm).mono fun e W' ⟨h1, h2⟩ => ⟨h1, HC2.out _ _ _ h2, h2⟩
                  have CR : Hid (∀ W, Sep w.heap.size w W (blkOb wr.heap.size 45 #[.int .i64 2, .slice A1 n1 c1', .int .i64 k] :: imgOb g fb (l.take mm) sz mm :: refOb g' fb' l sz dur :: os) → Calls Try.prog 23 #[.pointer (some ⟨g', 0, none⟩), .int .i64 k] W fun e W' => e = .returned (.int .i64 0) ∧ W'.cell? ⟨wr.heap.size, 2, none⟩ = some (.int .i64 k) ∧ ∃ fb2, Sep w.heap.size w W' (blkOb wr.heap.size 45 #[.int .i64 2, .slice A1 n1 c1', .int .i64 k] :: imgOb g fb (l.take mm) sz mm :: refOb g' fb2 (l.take mm) sz mm :: os)) := fun W hW =>
                    (sep_crash_ref hW k (by omega) k1 mm hmm).mono fun e W' ⟨h1, fb2, h2⟩ => ⟨h1, HC2.out _ _ _ h2, fb2, h2⟩
                  clear hneg hmm
                  go_wp2_with fail
                  rw [← HW2.out]
                  have hq1 := HC2.out _ _ _ HA.out
                  go_region_held3 (fun w' => w'.cell? ⟨wr.heap.size, 2, none⟩ = some (.int .i64 k)) (first | go_keep | assumption) (first | (go_at_call 13; refine (CA.out _ (by first | exact Below.refl _ _ | exact (Below.refl _ _).drew)).mono ?_; rintro e w4 ⟨rfl, hq2, hs4⟩) | (go_at_call 23; refine (CR.out _ (by assumption)).mono ?_; rintro e w5 ⟨rfl, hq3, fb2, hs5⟩))
                  all_goals
                    have HX := Lib.hid (hs5.sub (List.sublist_cons_self _ _))
                    clear hs4 hs5
                    go_wp2_with fail
                    refine (shows_any (HX.out.get (.head _)) (HX.out.get (.tail _ (.head _))) off n).mono ?_
                    rintro e wA ⟨rfl, hb⟩
                    have HY := Lib.hid (HX.out.below hb)
                    clear hb
                    rcases HOLD.out with ⟨rfl, rfl, rfl⟩ | ⟨go, fbo, go', fbo', lo, szo, duro, rfl, rfl, rfl⟩
                    · go_wp2_with fail
                      go_roundg (gk - 1)
                      case measure => have := HJ.out; omega
                      case rel => exact ⟨j + 1, by have := HJ.out; omega, by go_num, _, _, _, _, _, _, _, rfl, rfl, HY.out, .inl ⟨rfl, rfl, rfl⟩⟩
                    · go_wp2_with fail
                      refine (shows_any (HY.out.get (.tail _ (.tail _ (.head _)))) (HY.out.get (.tail _ (.tail _ (.tail _ (.head _))))) off n).mono ?_
                      rintro e wB ⟨rfl, hb⟩
                      have HZ := Lib.hid (HY.out.below hb)
                      clear hb
                      go_wp2_with fail
                      go_roundg (gk - 1)
                      case measure => have := HJ.out; omega
                      case rel => exact ⟨j + 1, by have := HJ.out; omega, by go_num, _, _, _, _, _, _, _, rfl, rfl, HZ.out, .inr ⟨_, _, _, _, _, _, _, rfl, rfl, rfl⟩⟩
              by_cases e3 : d = 3
              · subst e3
                go_wp2_with fail
                rw [← HW2.out]
                refine (sep_erase HA.out).mono ?_
                rintro e w3 ⟨rfl, hs⟩
                have HB3 := Lib.hid hs
                clear hs
                go_wp2_with fail
                refine (sep_erase_ref HB3.out).mono ?_
                rintro e w4 ⟨rfl, hs⟩
                have HX := Lib.hid (hs.sub (List.sublist_cons_self _ _))
                clear hs
                go_wp2_with fail
                refine (shows_any (HX.out.get (.head _)) (HX.out.get (.tail _ (.head _))) off n).mono ?_
                rintro e wA ⟨rfl, hb⟩
                have HY := Lib.hid (HX.out.below hb)
                clear hb
                rcases HOLD.out with ⟨rfl, rfl, rfl⟩ | ⟨go, fbo, go', fbo', lo, szo, duro, rfl, rfl, rfl⟩
                · go_wp2_with fail
                  go_roundg (gk - 1)
                  case measure => have := HJ.out; omega
                  case rel => exact ⟨j + 1, by have := HJ.out; omega, by go_num, _, _, _, _, _, _, _, rfl, rfl, HY.out, .inl ⟨rfl, rfl, rfl⟩⟩
                · go_wp2_with fail
                  refine (shows_any (HY.out.get (.tail _ (.tail _ (.head _)))) (HY.out.get (.tail _ (.tail _ (.tail _ (.head _))))) off n).mono ?_
                  rintro e wB ⟨rfl, hb⟩
                  have HZ := Lib.hid (HY.out.below hb)
                  clear hb
                  go_wp2_with fail
                  go_roundg (gk - 1)
                  case measure => have := HJ.out; omega
                  case rel => exact ⟨j + 1, by have := HJ.out; omega, by go_num, _, _, _, _, _, _, _, rfl, rfl, HZ.out, .inr ⟨_, _, _, _, _, _, _, rfl, rfl, rfl⟩⟩
              by_cases e4 : d = 4
              · subst e4
                have HB2 : Hid (Sep w.heap.size w w2 [imgOb g fb l sz dur, refOb g' fb' l sz dur]) := HA.out.sub (.cons _ (.cons_cons _ (.cons_cons _ (List.nil_sublist _))))
                go_wp2_with fail
                rw [← HW2.out]
                refine (sep_copy HB2.out (HB2.out.get (.head _))).mono ?_
                rintro e w3 ⟨gc, fbc, rfl, hs⟩
                have HB3 := Lib.hid hs
                clear hs
                go_wp2_with fail
                refine (sep_copy_ref HB3.out (HB3.out.get (.tail _ (.tail _ (.head _))))).mono ?_
                rintro e w4 ⟨gd, fbd, rfl, hs⟩
                have HX := Lib.hid (hs.perm (.swap _ _ _))
                clear hs
                go_wp2_with fail
                refine (shows_any (HX.out.get (.head _)) (HX.out.get (.tail _ (.head _))) off n).mono ?_
                rintro e wA ⟨rfl, hb⟩
                have HY := Lib.hid (HX.out.below hb)
                clear hb
                go_wp2_with fail
                refine (shows_any (HY.out.get (.tail _ (.tail _ (.head _)))) (HY.out.get (.tail _ (.tail _ (.tail _ (.head _))))) off n).mono ?_
                rintro e wB ⟨rfl, hb⟩
                have HZ := Lib.hid (HY.out.below hb)
                clear hb
                go_wp2_with fail
                go_roundg (gk - 1)
                case measure => have := HJ.out; omega
                case rel => exact ⟨j + 1, by have := HJ.out; omega, by go_num, _, _, _, _, _, _, _, rfl, rfl, HZ.out, .inr ⟨_, _, _, _, _, _, _, rfl, rfl, rfl⟩⟩
              have t0 : (d == 0) = false := by simpa using e0
              have t1 : (d == 1) = false := by simpa using e1
              have t2 : (d == 2) = false := by simpa using e2
              have t3 : (d == 3) = false := by simpa using e3
              have t4 : (d == 4) = false := by simpa using e4
              clear e0 e1 e2 e3 e4
              have HX := Lib.hid (HA.out.sub (List.sublist_cons_self _ _))
              go_wp2_with fail
              rw [← HW2.out]
              refine (shows_any (HX.out.get (.head _)) (HX.out.get (.tail _ (.head _))) off n).mono ?_
              rintro e wA ⟨rfl, hb⟩
              have HY := Lib.hid (HX.out.below hb)
              clear hb
              rcases HOLD.out with ⟨rfl, rfl, rfl⟩ | ⟨go, fbo, go', fbo', lo, szo, duro, rfl, rfl, rfl⟩
              · go_wp2_with fail
                go_roundg (gk - 1)
                case measure => have := HJ.out; omega
                case rel => exact ⟨j + 1, by have := HJ.out; omega, by go_num, _, _, _, _, _, _, _, rfl, rfl, HY.out, .inl ⟨rfl, rfl, rfl⟩⟩
              · go_wp2_with fail
                refine (shows_any (HY.out.get (.tail _ (.tail _ (.head _)))) (HY.out.get (.tail _ (.tail _ (.tail _ (.head _))))) off n).mono ?_
                rintro e wB ⟨rfl, hb⟩
                have HZ := Lib.hid (HY.out.below hb)
                clear hb
                go_wp2_with fail
                go_roundg (gk - 1)
                case measure => have := HJ.out; omega
                case rel => exact ⟨j + 1, by have := HJ.out; omega, by go_num, _, _, _, _, _, _, _, rfl, rfl, HZ.out, .inr ⟨_, _, _, _, _, _, _, rfl, rfl, rfl⟩⟩
            · go_wp2_with fail
              refine (shows_any (HS.out.get (.head _)) (HS.out.get (.tail _ (.head _))) off n).mono ?_
              rintro e wA ⟨rfl, hb⟩
              have HY := Lib.hid (bt HS.out.bel hb)
              clear hb
              go_wp2_with fail
              refine (works_any _).mono ?_
              rintro e w9 ⟨rfl, hb⟩
              go_wp2
              go_ret
              exact ⟨rfl, bt HY.out hb⟩
        · have hbad : size < 1 ∨ (1 ≤ size ∧ 8192 < size) := by omega
          go_wp2_with fail
          refine (new_img_err size _ hbad).mono ?_
          rintro e w1 ⟨rfl, rfl⟩
          go_wp2_with fail
          refine (new_ref_err size _ hbad).mono ?_
          rintro e w1 ⟨rfl, rfl⟩
          go_wp2_with fail
          refine (works_any _).mono ?_
          rintro e w9 ⟨rfl, hb⟩
          go_wp2
          go_ret
          exact ⟨rfl, bt HB.out hb⟩
theorem ImagePlays_walk (v0 v1 v2 v3 : Value) (w : World) (h0 : ArgIn Try.prog w 3 v0) (h1 : ArgIn Try.prog w 43 v1) (h2 : ArgIn Try.prog w 3 v2) (h3 : ArgIn Try.prog w 3 v3) :
    Calls Try.prog 6 #[v0, v1, v2, v3] w fun e w' => e = .returned (.bool true) ∧ Below w.heap.size w w' := by
  obtain ⟨a, rfl, _⟩ := h0.int Try.underlying3
  obtain ⟨A, n, c, rfl, hn, hc, hm⟩ := steps_arg h1
  obtain ⟨b, rfl, _⟩ := h2.int Try.underlying3
  obtain ⟨k, rfl, _⟩ := h3.int Try.underlying3
  exact ImagePlays_w a A n c b k w hm hn hc
end Go.Proofs.Ytbblbeppiblndaa

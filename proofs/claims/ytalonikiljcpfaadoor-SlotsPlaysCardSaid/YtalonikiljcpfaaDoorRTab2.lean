/-
  The document's table of slots: the methods that change it, New and Copy. Conditions: as in the text ahead.
-/
import Derived.Test.YtalonikiljcpfaaDoorRTab
import Derived.Deep.RegionHeld3
namespace Go.Proofs.YtalonikiljcpfaaDoor
open Go.RowKit
set_option linter.unusedVariables false
def RtTo (w w' : World) (g b r : Nat) (T : List Nat) : Prop := RTab w' g b r T ∧ Chg (rfoot g b) w w'
section
variable {w w' w1 : World} {g b r : Nat} {T : List Nat}
theorem RtTo.refl (h : RTab w g b r T) (hb : Below w.heap.size w w') : RtTo w w' g b r T := ⟨h.below hb, Chg.of_below hb⟩
theorem RtTo.before (h : RtTo w1 w' g b r T) (hb : Below w.heap.size w w1) : RtTo w w' g b r T := ⟨h.1, (Chg.of_below hb).trans h.2 (fun _ _ h => h)⟩
set_option maxHeartbeats 1000000 in
theorem rttake (h : RTab w g b r T) (s : Nat) (hs : s < 5) (hc : 0 < cnt T 0) :
    Calls Tryd.prog 53 #[.pointer (some ⟨g, 0, none⟩), .int .i64 (s : Int)] w fun e w' => e = .returned (.int .i64 (firstIn T 0 : Int)) ∧ RtTo w w' g b r (T.set (firstIn T 0) s) := by
  obtain ⟨hv, hv2⟩ := firstIn_lt hc
  obtain ⟨l, hl⟩ := shown_first (T := T) (s := 0) (by omega) hc
  obtain ⟨v, hvv⟩ : ∃ v, firstIn T 0 = v := ⟨_, rfl⟩
  have HI : Hid (Calls Tryd.prog 57 #[.pointer (some ⟨g, 0, none⟩), .int .i64 0] w fun e w' => ∃ ad m c, e = .returned (.slice (some ad) (m + 1) c) ∧ m + 1 ≤ c ∧ c ≤ maxLen ∧ w'.cell? ad = some (.int .i64 (v : Int)) ∧ Below w.heap.size w w') := by
    refine (rtin h 0).mono ?_
    rintro e w1 ⟨v1, rfl, ho, hb⟩
    obtain ⟨A1, c1, rfl, h11, h12, h13⟩ := own_slice ho
    have hl0 : shown T 0 = v :: l := by rw [← hvv]; exact hl
    rw [hl0] at h11 h13 ⊢
    obtain ⟨ad, u, rfl, hab, hu, hcell⟩ := h13.at_ (k := 0) (by simp)
    have hu' : u = .int .i64 (v : Int) := by
      have : (nats (v :: l))[0]? = some (.int .i64 (v : Int)) := rfl
      rw [this] at hu
      exact (Option.some.inj hu).symm
    subst hu'
    rw [show ad.add 0 = ad from by simp [Addr.add]] at hcell
    exact ⟨ad, l.length, c1, rfl, h11, h12, hcell, hb⟩
  have H := Lib.hid h
  rw [hvv]
  have hvT : v < T.length := by rw [← hvv]; exact hv
  have hn32 := h.le
  clear h hl hv hv2 hvv hc
  go_enter Tryd.func53, Tryd.ntmps53
  go_wp2_with fail
  refine HI.out.mono ?_
  rintro e w1 ⟨ad, m, c1, rfl, h11, h12, hcell, hb⟩
  have HB := Lib.hid hb
  have hr := H.out.below hb
  obtain ⟨c, q0, q1, qc, _, hcm⟩ := hr.parts
  have qv := qc v hvT
  obtain ⟨p1, p2, p3⟩ := hr.put hvT hs
  have HP := Lib.hid (And.intro p1 p2)
  obtain ⟨n, hn⟩ : ∃ n, T.length = n := ⟨_, rfl⟩
  rw [hn] at q0 hvT hn32
  unfold maxLen at hcm h12
  clear hb hr qc p1 p2 hn
  go_wp2_with fail
  go_ret
  exact ⟨rfl, RtTo.before ⟨HP.out.1, HP.out.2⟩ HB.out⟩
theorem only_nat (T : List Nat) (s : Nat) (hs : s = 1 ∨ s = 3 ∨ s = 4) : onlyB T (s : Int) = decide (0 < cnt T s) := by
  unfold onlyB
  rw [decide_eq_true (show (s : Int) = 1 ∨ (s : Int) = 3 ∨ (s : Int) = 4 by omega), Int.toNat_natCast, Bool.true_and]
set_option maxHeartbeats 4000000 in
theorem rtactive (h : RTab w g b r T) :
    Calls Tryd.prog 30 #[.pointer (some ⟨g, 0, none⟩)] w fun e w' => e = .returned (.tuple #[.int .i64 (takeV T 1 r : Int), .int .i64 (takeE T 1 r 11)]) ∧ RtTo w w' g b r (takeT T 1 r) := by
  have HV := Lib.hid (rtvalid h)
  have HO := Lib.hid (rtonly h 1)
  rw [show onlyB T 1 = decide (0 < cnt T 1) from only_nat T 1 (by omega)] at HO
  have H := Lib.hid h
  have hc0 := cnt_le T 0
  have hle := h.le
  have hrs := h.res
  obtain ⟨vo, hvo⟩ : ∃ vo, onlyV T 1 = vo := ⟨_, rfl⟩
  rw [hvo] at HO
  obtain ⟨c0, hk0⟩ : ∃ c0, cnt T 0 = c0 := ⟨_, rfl⟩
  have HK0 := Lib.hid hk0
  unfold takeV takeE takeT
  rw [hk0] at hc0 ⊢
  clear h hvo hk0
  by_cases h1 : 0 < cnt T 1
  · rw [decide_eq_true h1] at HO
    rw [if_pos h1, if_pos h1, if_pos h1]
    clear h1
    go_enter Tryd.func30, Tryd.ntmps30
    go_wp2_with fail
    refine HV.out.mono ?_
    rintro e w' ⟨rfl, rfl⟩
    go_wp2_with fail
    refine HO.out.mono ?_
    rintro e w1 ⟨rfl, hb⟩
    have HB := Lib.hid hb
    clear hb
    go_wp2_with fail
    go_ret2
    exact ⟨rfl, RtTo.refl H.out HB.out⟩
  · rw [decide_eq_false h1] at HO
    rw [if_neg h1, if_neg h1, if_neg h1]
    clear h1
    by_cases h2 : c0 ≤ r
    · rw [if_pos h2, if_pos h2, if_pos h2]
      go_enter Tryd.func30, Tryd.ntmps30
      go_wp2_with fail
      refine HV.out.mono ?_
      rintro e w' ⟨rfl, rfl⟩
      go_wp2_with fail
      refine HO.out.mono ?_
      rintro e w1 ⟨rfl, hb⟩
      have HB := Lib.hid hb
      have HR1 := Lib.hid (H.out.below hb)
      have hr1 := H.out.below hb
      obtain ⟨c, q0, q1, _⟩ := hr1.parts
      have HF : Hid (Calls Tryd.prog 52 #[.pointer (some ⟨g, 0, none⟩)] w1.drew fun e w' => e = .returned (.int .i64 (c0 : Int)) ∧ w'.cell? ⟨g, 1, none⟩ = some (.int .i64 (r : Int)) ∧ Below w1.heap.size w1 w') := by
        refine (rtfree hr1.drew).mono ?_
        rintro e w' ⟨h1, h2⟩
        rw [HK0.out] at h1
        have hb2 : Below w1.heap.size w1 w' := ((Below.refl _ w1).drew).trans h2
        obtain ⟨_, _, q, _⟩ := (hr1.below hb2).parts
        exact ⟨h1, q, hb2⟩
      clear hb hr1 q0
      go_wp2_with fail
      go_region_held3 (fun X => X.cell? ⟨g, 1, none⟩ = some (.int .i64 (r : Int))) (first | assumption | go_keep)
        (first | (go_at_call 52; refine HF.out.mono ?_; rintro e w2 ⟨rfl, q2, hb2⟩))
      all_goals
        have HB2 := Lib.hid hb2
        clear hb2
        go_wp2_with fail
        go_ret2
        exact ⟨rfl, RtTo.refl H.out (HB.out.trans (HB2.out.mono HB.out.size))⟩
    · rw [if_neg h2, if_neg h2, if_neg h2]
      have h3 : r < c0 := by omega
      clear h2
      go_enter Tryd.func30, Tryd.ntmps30
      go_wp2_with fail
      refine HV.out.mono ?_
      rintro e w' ⟨rfl, rfl⟩
      go_wp2_with fail
      refine HO.out.mono ?_
      rintro e w1 ⟨rfl, hb⟩
      have HB := Lib.hid hb
      have HR1 := Lib.hid (H.out.below hb)
      have hr1 := H.out.below hb
      obtain ⟨c, q0, q1, _⟩ := hr1.parts
      have HF : Hid (Calls Tryd.prog 52 #[.pointer (some ⟨g, 0, none⟩)] w1.drew fun e w' => e = .returned (.int .i64 (c0 : Int)) ∧ w'.cell? ⟨g, 1, none⟩ = some (.int .i64 (r : Int)) ∧ Below w1.heap.size w1 w') := by
        refine (rtfree hr1.drew).mono ?_
        rintro e w' ⟨h1, h2⟩
        rw [HK0.out] at h1
        have hb2 : Below w1.heap.size w1 w' := ((Below.refl _ w1).drew).trans h2
        obtain ⟨_, _, q, _⟩ := (hr1.below hb2).parts
        exact ⟨h1, q, hb2⟩
      clear hb hr1 q0
      go_wp2_with fail
      go_region_held3 (fun X => X.cell? ⟨g, 1, none⟩ = some (.int .i64 (r : Int))) (first | assumption | go_keep)
        (first | (go_at_call 52; refine HF.out.mono ?_; rintro e w2 ⟨rfl, q2, hb2⟩))
      all_goals
        have HB2 := Lib.hid hb2
        clear hb2
        have HR2 := Lib.hid (HR1.out.below HB2.out)
        go_wp2_with fail
        refine (rttake HR2.out 1 (by omega) (by rw [HK0.out]; omega)).mono ?_
        rintro e w3 ⟨rfl, hs⟩
        have HS := Lib.hid hs
        clear hs
        go_wp2_with fail
        go_ret2
        exact ⟨rfl, RtTo.before HS.out (HB.out.trans (HB2.out.mono HB.out.size))⟩
set_option maxHeartbeats 4000000 in
theorem rtoutput (h : RTab w g b r T) :
    Calls Tryd.prog 31 #[.pointer (some ⟨g, 0, none⟩)] w fun e w' => e = .returned (.tuple #[.int .i64 (takeV T 4 0 : Int), .int .i64 (takeE T 4 0 4)]) ∧ RtTo w w' g b r (takeT T 4 0) := by
  have HV := Lib.hid (rtvalid h)
  have HO := Lib.hid (rtonly h 4)
  rw [show onlyB T 4 = decide (0 < cnt T 4) from only_nat T 4 (by omega)] at HO
  have H := Lib.hid h
  have hc0 := cnt_le T 0
  have hle := h.le
  have hrs := h.res
  obtain ⟨vo, hvo⟩ : ∃ vo, onlyV T 4 = vo := ⟨_, rfl⟩
  rw [hvo] at HO
  obtain ⟨c0, hk0⟩ : ∃ c0, cnt T 0 = c0 := ⟨_, rfl⟩
  have HK0 := Lib.hid hk0
  unfold takeV takeE takeT
  rw [hk0] at hc0 ⊢
  clear h hvo hk0
  by_cases h1 : 0 < cnt T 4
  · rw [decide_eq_true h1] at HO
    rw [if_pos h1, if_pos h1, if_pos h1]
    clear h1
    go_enter Tryd.func31, Tryd.ntmps31
    go_wp2_with fail
    refine HV.out.mono ?_
    rintro e w' ⟨rfl, rfl⟩
    go_wp2_with fail
    refine HO.out.mono ?_
    rintro e w1 ⟨rfl, hb⟩
    have HB := Lib.hid hb
    clear hb
    go_wp2_with fail
    go_ret2
    exact ⟨rfl, RtTo.refl H.out HB.out⟩
  · rw [decide_eq_false h1] at HO
    rw [if_neg h1, if_neg h1, if_neg h1]
    clear h1
    by_cases h2 : c0 ≤ 0
    · rw [if_pos h2, if_pos h2, if_pos h2]
      have h20 : c0 = 0 := by omega
      subst h20
      go_enter Tryd.func31, Tryd.ntmps31
      go_wp2_with fail
      refine HV.out.mono ?_
      rintro e w' ⟨rfl, rfl⟩
      go_wp2_with fail
      refine HO.out.mono ?_
      rintro e w1 ⟨rfl, hb⟩
      have HB := Lib.hid hb
      have HR1 := Lib.hid (H.out.below hb)
      have HF : Hid (Calls Tryd.prog 52 #[.pointer (some ⟨g, 0, none⟩)] w1 fun e w' => e = .returned (.int .i64 0) ∧ Below w1.heap.size w1 w') := by
        refine (rtfree (H.out.below hb)).mono ?_
        rintro e w' ⟨h1, h2⟩
        rw [HK0.out] at h1
        exact ⟨h1, h2⟩
      clear hb
      go_wp2_with fail
      refine HF.out.mono ?_
      rintro e w2 ⟨rfl, hb2⟩
      all_goals
        have HB2 := Lib.hid hb2
        clear hb2
        go_wp2_with fail
        go_ret2
        exact ⟨rfl, RtTo.refl H.out (HB.out.trans (HB2.out.mono HB.out.size))⟩
    · rw [if_neg h2, if_neg h2, if_neg h2]
      have h3 : 0 < c0 := by omega
      clear h2
      have h4 : ((c0 : Int) == 0) = false := by simp; omega
      go_enter Tryd.func31, Tryd.ntmps31
      go_wp2_with fail
      refine HV.out.mono ?_
      rintro e w' ⟨rfl, rfl⟩
      go_wp2_with fail
      refine HO.out.mono ?_
      rintro e w1 ⟨rfl, hb⟩
      have HB := Lib.hid hb
      have HR1 := Lib.hid (H.out.below hb)
      have HF : Hid (Calls Tryd.prog 52 #[.pointer (some ⟨g, 0, none⟩)] w1 fun e w' => e = .returned (.int .i64 (c0 : Int)) ∧ Below w1.heap.size w1 w') := by
        refine (rtfree (H.out.below hb)).mono ?_
        rintro e w' ⟨h1, h2⟩
        rw [HK0.out] at h1
        exact ⟨h1, h2⟩
      clear hb
      go_wp2_with fail
      refine HF.out.mono ?_
      rintro e w2 ⟨rfl, hb2⟩
      all_goals
        have HB2 := Lib.hid hb2
        clear hb2
        have HR2 := Lib.hid (HR1.out.below HB2.out)
        go_wp2_with fail
        refine (rttake HR2.out 4 (by omega) (by rw [HK0.out]; omega)).mono ?_
        rintro e w3 ⟨rfl, hs⟩
        have HS := Lib.hid hs
        clear hs
        go_wp2_with fail
        go_ret2
        exact ⟨rfl, RtTo.before HS.out (HB.out.trans (HB2.out.mono HB.out.size))⟩
set_option maxHeartbeats 1000000 in
theorem rtstate (h : RTab w g b r T) (i : Int) :
    Calls Tryd.prog 55 #[.pointer (some ⟨g, 0, none⟩), .int .i64 i] w fun e w' => e = .returned (.tuple #[.int .i64 (stV T i : Int), .int .i64 (stE T i)]) ∧ w = w' := by
  have HV := Lib.hid (rtvalid h)
  obtain ⟨c, q0, q1, qc, _, hcm⟩ := h.parts
  have e1 : stV T i = if inT T i then T.getD i.toNat 0 else 0 := rfl
  have e2 : stE T i = if inT T i then 0 else 3 := rfl
  rw [e1, e2]
  have hle := h.le
  unfold maxLen at hcm
  rcases inT_or T i with ⟨j, rfl, hj, hin, ht⟩ | ⟨ho, hno⟩
  · rw [if_pos hin, if_pos hin, ht, List.getD_eq_getElem?_getD, List.getElem?_eq_getElem hj, Option.getD_some]
    have qj := qc j hj
    obtain ⟨x, hx⟩ : ∃ x, T[j] = x := ⟨_, rfl⟩
    rw [hx] at qj ⊢
    obtain ⟨n, hn⟩ : ∃ n, T.length = n := ⟨_, rfl⟩
    rw [hn] at q0 hj hle
    clear h qc e1 e2 hin ht hx hn
    go_enter Tryd.func55, Tryd.ntmps55
    go_wp2_with fail
    refine HV.out.mono ?_
    rintro e w' ⟨rfl, rfl⟩
    go_wp2_with fail
    go_ret2
    exact ⟨rfl, rfl⟩
  · rw [if_neg hno, if_neg hno]
    obtain ⟨n, hn⟩ : ∃ n, T.length = n := ⟨_, rfl⟩
    rw [hn] at q0 ho hle
    clear h qc e1 e2 hno hn
    by_cases h1 : i < 0
    · clear ho
      go_enter Tryd.func55, Tryd.ntmps55
      go_wp2_with fail
      refine HV.out.mono ?_
      rintro e w' ⟨rfl, rfl⟩
      go_wp2_with fail
      go_ret2
      exact ⟨rfl, rfl⟩
    · have h2 : (n : Int) ≤ i := by omega
      clear ho
      go_enter Tryd.func55, Tryd.ntmps55
      go_wp2_with fail
      refine HV.out.mono ?_
      rintro e w' ⟨rfl, rfl⟩
      go_wp2_with fail
      go_ret2
      exact ⟨rfl, rfl⟩
set_option maxHeartbeats 8000000 in
theorem rtchange (h : RTab w g b r T) (i : Int) (x y to : Nat) (ht : to < 5) (bf : Nat → Bool) (hbf : ∀ s, bf s = (s == x || s == y)) :
    Calls Tryd.prog 54 #[.pointer (some ⟨g, 0, none⟩), .int .i64 i, .int .i64 (x : Int), .int .i64 (y : Int), .int .i64 (to : Int)] w fun e w' => e = .returned (.int .i64 (chgE bf to T i)) ∧ RtTo w w' g b r (chgT bf to T i) := by
  have HS := Lib.hid (rtstate h i)
  have e1 : stV T i = if inT T i then T.getD i.toNat 0 else 0 := rfl
  have e2 : stE T i = if inT T i then 0 else 3 := rfl
  rw [e1, e2] at HS
  have HO := Lib.hid (rtonly h 3)
  rw [show onlyB T 3 = decide (0 < cnt T 3) from only_nat T 3 (by omega)] at HO
  obtain ⟨vo, hvo⟩ : ∃ vo, onlyV T 3 = vo := ⟨_, rfl⟩
  rw [hvo] at HO
  have H := Lib.hid h
  have hle := h.le
  unfold chgE chgT
  rcases inT_or T i with ⟨j, rfl, hj, hin, htn⟩ | ⟨ho, hno⟩
  · rw [if_pos hin, if_pos hin, htn, List.getD_eq_getElem?_getD, List.getElem?_eq_getElem hj, Option.getD_some] at HS ⊢
    obtain ⟨z, hz⟩ : ∃ z, T[j] = z := ⟨_, rfl⟩
    rw [hz] at HS ⊢
    have HJ := Lib.hid hj
    clear h e1 e2 hvo hin htn hz
    obtain ⟨n, hn⟩ : ∃ n, T.length = n := ⟨_, rfl⟩
    have HN := Lib.hid hn
    rw [hn] at hj hle
    clear hn
    by_cases hb1 : bf z = true
    · rw [if_pos hb1, if_pos hb1]
      have hxy : z = x ∨ (z ≠ x ∧ z = y) := by rw [hbf] at hb1; simp at hb1; omega
      clear hb1 hbf
      by_cases h3 : to = 3 ∧ 0 < cnt T 3
      · rw [if_pos h3, if_pos h3]
        obtain ⟨rfl, hc3⟩ := h3
        rw [decide_eq_true hc3] at HO
        clear hc3
        rcases hxy with rfl | ⟨hzx, rfl⟩
        · go_enter Tryd.func54, Tryd.ntmps54
          go_wp2_with fail
          refine HS.out.mono ?_
          rintro e w' ⟨rfl, rfl⟩
          go_wp2_with fail
          refine HO.out.mono ?_
          rintro e w1 ⟨rfl, hb⟩
          have HB := Lib.hid hb
          clear hb
          go_wp2_with fail
          go_ret
          exact ⟨rfl, RtTo.refl H.out HB.out⟩
        · have hzx2 : ((z : Int) != (x : Int)) = true := by simp; omega
          clear hzx
          go_enter Tryd.func54, Tryd.ntmps54
          go_wp2_with fail
          refine HS.out.mono ?_
          rintro e w' ⟨rfl, rfl⟩
          go_wp2_with fail
          refine HO.out.mono ?_
          rintro e w1 ⟨rfl, hb⟩
          have HB := Lib.hid hb
          clear hb
          go_wp2_with fail
          go_ret
          exact ⟨rfl, RtTo.refl H.out HB.out⟩
      · rw [if_neg h3, if_neg h3]
        by_cases ht3 : to = 3
        · have hc3 : ¬ 0 < cnt T 3 := fun hc => h3 ⟨ht3, hc⟩
          subst ht3
          rw [decide_eq_false hc3] at HO
          clear h3 hc3
          rcases hxy with rfl | ⟨hzx, rfl⟩
          · go_enter Tryd.func54, Tryd.ntmps54
            go_wp2_with fail
            refine HS.out.mono ?_
            rintro e w' ⟨rfl, rfl⟩
            go_wp2_with fail
            refine HO.out.mono ?_
            rintro e w1 ⟨rfl, hb⟩
            have HB := Lib.hid hb
            have hr := H.out.below hb
            obtain ⟨c, q0, q1, qc, _, hcm⟩ := hr.parts
            have qv := qc j HJ.out
            obtain ⟨p1, p2, p3⟩ := hr.put HJ.out ht
            have HP := Lib.hid (And.intro p1 p2)
            rw [HN.out] at q0
            unfold maxLen at hcm
            clear hb hr qc p1 p2
            go_wp2_with fail
            go_ret
            exact ⟨rfl, RtTo.before ⟨HP.out.1, HP.out.2⟩ HB.out⟩
          · have hzx2 : ((z : Int) != (x : Int)) = true := by simp; omega
            clear hzx
            go_enter Tryd.func54, Tryd.ntmps54
            go_wp2_with fail
            refine HS.out.mono ?_
            rintro e w' ⟨rfl, rfl⟩
            go_wp2_with fail
            refine HO.out.mono ?_
            rintro e w1 ⟨rfl, hb⟩
            have HB := Lib.hid hb
            have hr := H.out.below hb
            obtain ⟨c, q0, q1, qc, _, hcm⟩ := hr.parts
            have qv := qc j HJ.out
            obtain ⟨p1, p2, p3⟩ := hr.put HJ.out ht
            have HP := Lib.hid (And.intro p1 p2)
            rw [HN.out] at q0
            unfold maxLen at hcm
            clear hb hr qc p1 p2
            go_wp2_with fail
            go_ret
            exact ⟨rfl, RtTo.before ⟨HP.out.1, HP.out.2⟩ HB.out⟩
        · have ht3b : ((to : Int) == 3) = false := by simp; omega
          obtain ⟨vb, hvb⟩ : ∃ vb, decide (0 < cnt T 3) = vb := ⟨_, rfl⟩
          rw [hvb] at HO
          clear h3 hvb ht3
          rcases hxy with rfl | ⟨hzx, rfl⟩
          · go_enter Tryd.func54, Tryd.ntmps54
            go_wp2_with fail
            refine HS.out.mono ?_
            rintro e w' ⟨rfl, rfl⟩
            go_wp2_with fail
            refine HO.out.mono ?_
            rintro e w1 ⟨rfl, hb⟩
            have HB := Lib.hid hb
            have hr := H.out.below hb
            obtain ⟨c, q0, q1, qc, _, hcm⟩ := hr.parts
            have qv := qc j HJ.out
            obtain ⟨p1, p2, p3⟩ := hr.put HJ.out ht
            have HP := Lib.hid (And.intro p1 p2)
            rw [HN.out] at q0
            unfold maxLen at hcm
            clear hb hr qc p1 p2
            go_wp2_with fail
            go_ret
            exact ⟨rfl, RtTo.before ⟨HP.out.1, HP.out.2⟩ HB.out⟩
          · have hzx2 : ((z : Int) != (x : Int)) = true := by simp; omega
            clear hzx
            go_enter Tryd.func54, Tryd.ntmps54
            go_wp2_with fail
            refine HS.out.mono ?_
            rintro e w' ⟨rfl, rfl⟩
            go_wp2_with fail
            refine HO.out.mono ?_
            rintro e w1 ⟨rfl, hb⟩
            have HB := Lib.hid hb
            have hr := H.out.below hb
            obtain ⟨c, q0, q1, qc, _, hcm⟩ := hr.parts
            have qv := qc j HJ.out
            obtain ⟨p1, p2, p3⟩ := hr.put HJ.out ht
            have HP := Lib.hid (And.intro p1 p2)
            rw [HN.out] at q0
            unfold maxLen at hcm
            clear hb hr qc p1 p2
            go_wp2_with fail
            go_ret
            exact ⟨rfl, RtTo.before ⟨HP.out.1, HP.out.2⟩ HB.out⟩
    · rw [if_neg hb1, if_neg hb1]
      have hxy : z ≠ x ∧ z ≠ y := by rw [hbf] at hb1; simp at hb1; omega
      have hzx2 : ((z : Int) != (x : Int)) = true := by simp; omega
      have hzy2 : ((z : Int) != (y : Int)) = true := by simp; omega
      clear hb1 hbf hxy
      go_enter Tryd.func54, Tryd.ntmps54
      go_wp2_with fail
      refine HS.out.mono ?_
      rintro e w' ⟨rfl, rfl⟩
      go_wp2_with fail
      go_ret
      exact ⟨rfl, RtTo.refl H.out (Below.refl _ _)⟩
  · rw [if_neg hno, if_neg hno] at HS ⊢
    clear h e1 e2 hvo hno ho hle
    go_enter Tryd.func54, Tryd.ntmps54
    go_wp2_with fail
    refine HS.out.mono ?_
    rintro e w' ⟨rfl, rfl⟩
    go_wp2_with fail
    go_ret
    exact ⟨rfl, RtTo.refl H.out (Below.refl _ _)⟩
set_option maxHeartbeats 1000000 in
theorem rtseal (h : RTab w g b r T) (i : Int) :
    Calls Tryd.prog 32 #[.pointer (some ⟨g, 0, none⟩), .int .i64 i] w fun e w' => e = .returned (.int .i64 (chgE sealB 2 T i)) ∧ RtTo w w' g b r (chgT sealB 2 T i) := by
  have HC := Lib.hid (rtchange h i 1 4 2 (by omega) sealB (fun s => by unfold sealB; cases s == 1 <;> simp))
  obtain ⟨ce, hce⟩ : ∃ ce, chgE sealB 2 T i = ce := ⟨_, rfl⟩
  rw [hce] at HC ⊢
  clear h hce
  go_enter Tryd.func32, Tryd.ntmps32
  go_wp2_with fail
  refine HC.out.mono ?_
  rintro e w1 ⟨rfl, hs⟩
  have HS := Lib.hid hs
  clear hs
  go_wp2_with fail
  go_ret
  exact ⟨rfl, HS.out⟩
set_option maxHeartbeats 1000000 in
theorem rtchoose (h : RTab w g b r T) (i : Int) :
    Calls Tryd.prog 33 #[.pointer (some ⟨g, 0, none⟩), .int .i64 i] w fun e w' => e = .returned (.int .i64 (chgE chooseB 3 T i)) ∧ RtTo w w' g b r (chgT chooseB 3 T i) := by
  have HC := Lib.hid (rtchange h i 2 2 3 (by omega) chooseB (fun s => by unfold chooseB; cases s == 2 <;> simp))
  obtain ⟨ce, hce⟩ : ∃ ce, chgE chooseB 3 T i = ce := ⟨_, rfl⟩
  rw [hce] at HC ⊢
  clear h hce
  go_enter Tryd.func33, Tryd.ntmps33
  go_wp2_with fail
  refine HC.out.mono ?_
  rintro e w1 ⟨rfl, hs⟩
  have HS := Lib.hid hs
  clear hs
  go_wp2_with fail
  go_ret
  exact ⟨rfl, HS.out⟩
set_option maxHeartbeats 1000000 in
theorem rtdrop (h : RTab w g b r T) (i : Int) :
    Calls Tryd.prog 34 #[.pointer (some ⟨g, 0, none⟩), .int .i64 i] w fun e w' => e = .returned (.int .i64 (chgE dropB 0 T i)) ∧ RtTo w w' g b r (chgT dropB 0 T i) := by
  have HC := Lib.hid (rtchange h i 2 3 0 (by omega) dropB (fun s => by unfold dropB; cases s == 2 <;> simp))
  obtain ⟨ce, hce⟩ : ∃ ce, chgE dropB 0 T i = ce := ⟨_, rfl⟩
  rw [hce] at HC ⊢
  clear h hce
  go_enter Tryd.func34, Tryd.ntmps34
  go_wp2_with fail
  refine HC.out.mono ?_
  rintro e w1 ⟨rfl, hs⟩
  have HS := Lib.hid hs
  clear hs
  go_wp2_with fail
  go_ret
  exact ⟨rfl, HS.out⟩
set_option maxHeartbeats 1000000 in
theorem rtload (h : RTab w g b r T) (i : Int) :
    Calls Tryd.prog 35 #[.pointer (some ⟨g, 0, none⟩), .int .i64 i] w fun e w' => e = .returned (.int .i64 (chgE loadB 2 T i)) ∧ RtTo w w' g b r (chgT loadB 2 T i) := by
  have HC := Lib.hid (rtchange h i 0 0 2 (by omega) loadB (fun s => by unfold loadB; cases s == 0 <;> simp))
  obtain ⟨ce, hce⟩ : ∃ ce, chgE loadB 2 T i = ce := ⟨_, rfl⟩
  rw [hce] at HC ⊢
  clear h hce
  go_enter Tryd.func35, Tryd.ntmps35
  go_wp2_with fail
  refine HC.out.mono ?_
  rintro e w1 ⟨rfl, hs⟩
  have HS := Lib.hid hs
  clear hs
  go_wp2_with fail
  go_ret
  exact ⟨rfl, HS.out⟩
end
end Go.Proofs.YtalonikiljcpfaaDoor

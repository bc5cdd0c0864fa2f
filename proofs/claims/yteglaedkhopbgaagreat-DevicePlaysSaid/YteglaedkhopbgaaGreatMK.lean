/-
  The document's timer: Check, New, Arm, Tick, Plan, Copy; The document's timer: Plan, Copy.
-/
import Derived.Test.YteglaedkhopbgaaGreatMF
import Derived.Test.YteglaedkhopbgaaGreatME
import Derived.Deep.RegionLaw
import Derived.Deep.RegionHeld3
namespace Go.Proofs.YteglaedkhopbgaaGreat
open Go.RowKit Go.Shelf
set_option linter.unusedVariables false
theorem madeI0 (w : World) : (w.alloc (.cells #[] 3)).ownsRow w.heap.size 3 1 (.slice (some ⟨w.heap.size, 0, none⟩) 0 0) 0 [] := World.ownsRow_made w #[] 0 (Nat.le_refl _) (by unfold maxLen; omega) (by simp)
/-- The document's timer in memory: its block, its numbers' block. -/
def IsRT (w : World) (t : Nat) (kb : Option Nat) (P : Option PlanD) : Prop :=
  ∃ (at_ : Int) (dn : Bool) (A : Option Addr) (n c : Nat) (keep : List Int), Blk w t 96 #[.bool true, .int .i64 at_, .bool dn, .slice A n c] ∧ w.ownsRow 0 3 1 (.slice A n c) n (ints keep) ∧ kb = (Value.slice A n c).ownBlock ∧ kb ≠ some t ∧ n ≤ 34 ∧ (0 ≤ at_ ∧ at_ ≤ 1000000) ∧ P = armP at_ dn keep
def rtfoot (t : Nat) (kb : Option Nat) : Nat → Prop := fun k => k = t ∨ kb = some k
section
variable {w w' : World} {t : Nat} {kb : Option Nat} {P : Option PlanD}
theorem IsRT.chg {F : Nat → Prop} (h : IsRT w t kb P) (hc : Chg F w w') (hF : ∀ k, rtfoot t kb k → ¬ F k) : IsRT w' t kb P := by
  obtain ⟨at_, dn, A, n, c, keep, h1, h2, h3, h4, h5, h6, h7⟩ := h
  exact ⟨at_, dn, A, n, c, keep, h1.chg hc (hF _ (.inl rfl)), own_chg h2 hc (fun k hk => hF k (.inr (h3.trans hk))), h3, h4, h5, h6, h7⟩
theorem IsRT.lt (h : IsRT w t kb P) : ∀ k, rtfoot t kb k → k < w.heap.size := by
  obtain ⟨at_, dn, A, n, c, keep, h1, h2, h3, h4, h5, h6, h7⟩ := h
  rintro k (rfl | hk)
  · exact h1.lt
  · exact (h2.lt k (h3.symm.trans hk)).2
theorem IsRT.below (h : IsRT w t kb P) (hb : Below w.heap.size w w') : IsRT w' t kb P := h.chg (F := fun _ => False) (Chg.of_below hb) (fun _ _ h => h)
set_option maxRecDepth 100000 in
set_option maxHeartbeats 400000 in
theorem rt_new (w : World) :
    Calls Tryz.prog 43 #[] w fun e w' => e = .returned (.pointer (some ⟨w.heap.size, 0, none⟩)) ∧ IsRT w' w.heap.size none none ∧ Below w.heap.size w w' := by
  go_enter Tryz.func43, Tryz.ntmps43
  go_wp2_with fail
  go_ret
  exact ⟨rfl, ⟨0, false, none, 0, 0, [], Blk.new _ _ _, World.ownsRow_nil _ _ _ _, rfl, by simp, by omega, by omega, rfl⟩, (Below.refl _ _).alloc (Nat.le_refl _) _⟩
set_option maxRecDepth 100000 in
set_option maxHeartbeats 400000 in
theorem rt_valid (h : IsRT w t kb P) :
    Calls Tryz.prog 101 #[.pointer (some ⟨t, 0, none⟩)] w fun e w' => e = .returned (.bool true) ∧ w = w' := by
  obtain ⟨at_, dn, A, n, c, keep, h1, _⟩ := h
  have q0 : w.cell? ⟨t, 0, none⟩ = some (.bool true) := h1.cell 0
  clear h1
  go_enter Tryz.func101, Tryz.ntmps101
  go_wp2_with fail
  go_ret
  exact ⟨rfl, rfl⟩
set_option maxRecDepth 100000 in
set_option maxHeartbeats 2000000 in
theorem rt_check (at_ : Int) (dn : Bool) (A : Option Addr) (n c : Nat) (keep : List Int) (w : World) (hr : Reads w w.heap.size 1 A n (ints keep)) (hn : n ≤ c) (hc : c ≤ maxLen) (hat : -9223372036854775808 ≤ at_ ∧ at_ ≤ 9223372036854775807) :
    Calls Tryz.prog 102 #[planV at_ dn A n c] w fun e w' => e = .returned (.int .i64 (if okPlan at_ keep then 0 else 2)) ∧ Below w.heap.size w w' := by
  have hlen : keep.length = n := by have := hr.1; rw [ints_length] at this; omega
  have HB1 : Hid (Below w.heap.size w (w.alloc (.cells #[.int .i64 at_, .bool dn, .slice A n c] 35))) := (Below.refl _ _).alloc (Nat.le_refl _) _
  have HR : Hid (∀ k, k < n → ∃ ad, A = some ad ∧ (w.alloc (.cells #[.int .i64 at_, .bool dn, .slice A n c] 35)).cell? (ad.add k) = some (.int .i64 (keep.getD k 0))) := fun k hk => by
    obtain ⟨ad, u, e, _, hx, hc⟩ := (hr.below HB1.out).at_ hk
    have hkz : k < keep.length := by omega
    rw [ints_at hkz] at hx
    injection hx with hx
    subst hx
    refine ⟨ad, e, ?_⟩
    rw [hc, List.getD_eq_getElem?_getD, List.getElem?_eq_getElem hkz, Option.getD_some]
  obtain ⟨E, hE⟩ : ∃ E : Int, (if okPlan at_ keep then 0 else 2) = E := ⟨_, rfl⟩
  have HE : Hid ((okPlan at_ keep → E = 0) ∧ (¬ okPlan at_ keep → E = 2)) := ⟨fun h => by rw [← hE, if_pos h], fun h => by rw [← hE, if_neg h]⟩
  have HLEN := Lib.hid hlen
  unfold maxLen at hc
  rw [hE]
  clear hr hlen hE
  unfold planV
  by_cases h1 : at_ < 0
  · obtain rfl : E = 2 := HE.out.2 (fun h => by have := h.1.1; omega)
    go_enter Tryz.func102, Tryz.ntmps102
    go_wp2_with fail
    go_ret
    exact ⟨rfl, HB1.out⟩
  by_cases h2 : 1000000 < at_
  · obtain rfl : E = 2 := HE.out.2 (fun h => by have := h.1.2; omega)
    go_enter Tryz.func102, Tryz.ntmps102
    go_wp2_with fail
    go_ret
    exact ⟨rfl, HB1.out⟩
  by_cases h3 : n < 1
  · obtain rfl : E = 2 := HE.out.2 (fun h => by have := h.2.1.1; have := HLEN.out; omega)
    go_enter Tryz.func102, Tryz.ntmps102
    go_wp2_with fail
    go_ret
    exact ⟨rfl, HB1.out⟩
  by_cases h4 : 34 < n
  · obtain rfl : E = 2 := HE.out.2 (fun h => by have := h.2.1.2; have := HLEN.out; omega)
    go_enter Tryz.func102, Tryz.ntmps102
    go_wp2_with fail
    go_ret
    exact ⟨rfl, HB1.out⟩
  obtain ⟨W1, hW1⟩ : ∃ W1, W1 = w.alloc (.cells #[.int .i64 at_, .bool dn, .slice A n c] 35) := ⟨_, rfl⟩
  have hbk : Blk W1 w.heap.size 35 #[.int .i64 at_, .bool dn, .slice A n c] := by rw [hW1]; exact Blk.new _ _ _
  have q2 : W1.cell? ⟨w.heap.size, 2, none⟩ = some (.slice A n c) := hbk.cell 2
  have HW1 := Lib.hid hW1
  rw [← hW1] at HR
  clear hbk hW1
  go_enter Tryz.func102, Tryz.ntmps102
  go_wp2_with fail
  rw [← HW1.out]
  go_loopg [3] n (fun q v3 wr => ∃ (j : Nat), j + q = n ∧ v3 = .int .i64 j ∧ (∀ k, k < j → 0 ≤ keep.getD k 0 ∧ keep.getD k 0 ≤ 8192) ∧ W1 = wr)
  case atStart => exact ⟨0, by omega, rfl, fun k hk => by omega, rfl⟩
  case round =>
    obtain ⟨j, hj, rfl, hb, rfl⟩ := hrel
    have HJ := Lib.hid hj
    have hj' : j ≤ n := by omega
    have HB := Lib.hid hb
    clear hj hb
    by_cases hlt : j < n
    · obtain ⟨ad, rfl, qc⟩ := HR.out j hlt
      obtain ⟨z, hz⟩ : ∃ z, keep.getD j 0 = z := ⟨_, rfl⟩
      rw [hz] at qc
      have HZ := Lib.hid hz
      have hbad : ¬ (0 ≤ z ∧ z ≤ 8192) → ¬ okPlan at_ keep := fun h hok => by
        apply h
        have hjl : j < keep.length := by rw [HLEN.out]; exact hlt
        have := hok.2.2 keep[j] (List.getElem_mem hjl)
        rw [← HZ.out, List.getD_eq_getElem?_getD, List.getElem?_eq_getElem hjl, Option.getD_some]
        exact this
      have HBAD := Lib.hid hbad
      clear hz hbad
      by_cases z1 : z < 0
      · obtain rfl : E = 2 := HE.out.2 (HBAD.out (by omega))
        go_wp2_with fail
        go_ret
        exact ⟨rfl, by rw [HW1.out]; exact HB1.out⟩
      by_cases z2 : 8192 < z
      · obtain rfl : E = 2 := HE.out.2 (HBAD.out (by omega))
        go_wp2_with fail
        go_ret
        exact ⟨rfl, by rw [HW1.out]; exact HB1.out⟩
      go_wp2_with fail
      go_roundg (gk - 1)
      case measure => have := HJ.out; omega
      case rel =>
        refine ⟨j + 1, by have := HJ.out; omega, by go_num, fun k hk => ?_, rfl⟩
        by_cases e : k = j
        · subst e; rw [HZ.out]; omega
        · exact HB.out k (by omega)
    · have e8 : j = n := by omega
      subst e8
      obtain rfl : E = 0 := HE.out.1 ⟨⟨by omega, by omega⟩, ⟨by have := HLEN.out; omega, by have := HLEN.out; omega⟩, fun z hz => by
        obtain ⟨k, hk, rfl⟩ := List.mem_iff_getElem.1 hz
        have := HB.out k (by rw [← HLEN.out]; exact hk)
        rw [List.getD_eq_getElem?_getD, List.getElem?_eq_getElem hk, Option.getD_some] at this
        exact this⟩
      go_wp2_with fail
      go_ret
      exact ⟨rfl, by rw [HW1.out]; exact HB1.out⟩
set_option maxRecDepth 100000 in
set_option maxHeartbeats 1000000 in
theorem rt_tick (h : IsRT w t kb P) :
    Calls Tryz.prog 92 #[.pointer (some ⟨t, 0, none⟩)] w fun e w' => e = .returned (.bool (tickB P)) ∧ IsRT w' t kb (tickP P) ∧ Chg (fun k => k = t) w w' := by
  have HV := Lib.hid (rt_valid h)
  obtain ⟨at_, dn, A, n, c, keep, h1, h2, h3, h4, h5, h6, rfl⟩ := h
  have q1 : w.cell? ⟨t, 1, none⟩ = some (.int .i64 at_) := h1.cell 1
  have f1 := h1.frozen 1
  have H1 := Lib.hid h1
  have H2 := Lib.hid h2
  have H3 := Lib.hid h3
  have H4 := Lib.hid h4
  clear h1 h2 h3 h4
  by_cases h0 : at_ = 0
  · subst h0
    go_enter Tryz.func92, Tryz.ntmps92
    go_wp2_with fail
    refine HV.out.mono ?_
    rintro e w' ⟨rfl, rfl⟩
    go_wp2_with fail
    go_ret
    exact ⟨rfl, ⟨0, dn, A, n, c, keep, H1.out, H2.out, H3.out, H4.out, h5, h6, rfl⟩, Chg.refl _ _⟩
  · have hz : (at_ == 0) = false := by rw [beq_eq_false_iff_ne]; exact h0
    obtain ⟨w1, hw1⟩ : ∃ w1, w1 = w.setCell ⟨t, 1, none⟩ (.int .i64 (at_ - 1)) := ⟨_, rfl⟩
    have g1 : Blk w1 t 96 #[.bool true, .int .i64 (at_ - 1), .bool dn, .slice A n c] := by rw [hw1]; exact H1.out.set_ 1 (.int .i64 (at_ - 1))
    have hc1 : Chg (fun k => k = t) w w1 := by rw [hw1]; exact (Chg.refl (fun k => k = t) w).setCell (p := ⟨t, 1, none⟩) (.inl rfl) _
    have y1 : w1.cell? ⟨t, 1, none⟩ = some (.int .i64 (at_ - 1)) := g1.cell 1
    have hP : armP at_ dn keep = some ⟨at_, dn, keep⟩ := by unfold armP; rw [if_pos (by omega)]
    have HT : Hid (IsRT w1 t kb (tickP (armP at_ dn keep)) ∧ tickB (armP at_ dn keep) = (at_ - 1 == 0)) := by
      rw [hP]
      refine ⟨⟨at_ - 1, dn, A, n, c, keep, g1, own_chg H2.out hc1 (fun k hk e => H4.out (by rw [H3.out, hk, e])), H3.out, H4.out, h5, by omega, rfl⟩, ?_⟩
      show decide (¬ 0 < at_ - 1) = _
      by_cases e : at_ = 1
      · subst e; rfl
      · rw [show (at_ - 1 == 0) = false from by rw [beq_eq_false_iff_ne]; omega]
        simp
        omega
    have HC1 := Lib.hid hc1
    have HW1 := Lib.hid hw1
    rw [HT.out.2]
    clear g1 hc1 hP hw1
    go_enter Tryz.func92, Tryz.ntmps92
    go_wp2_with fail
    refine HV.out.mono ?_
    rintro e w' ⟨rfl, rfl⟩
    rw [HW1.out] at y1
    go_wp2_with fail
    rw [← HW1.out]
    go_ret
    exact ⟨rfl, HT.out.1, HC1.out⟩
/-- What Arm leaves. -/
def RArmQ (t : Nat) (at_ : Int) (dn : Bool) (keep : List Int) (w : World) (e : Ending) (w' : World) : Prop :=
  (¬ okPlan at_ keep ∧ e = .returned (.int .i64 2) ∧ Below w.heap.size w w') ∨
    (okPlan at_ keep ∧ e = .returned (.int .i64 0) ∧ ∃ kb', IsRT w' t kb' (armP at_ dn keep) ∧ Chg (fun k => k = t) w w' ∧ ∀ k, rtfoot t kb' k → k = t ∨ w.heap.size ≤ k)
set_option maxRecDepth 100000 in
set_option maxHeartbeats 4000000 in
theorem rt_arm (h : IsRT w t kb P) (at_ : Int) (dn : Bool) (A : Option Addr) (n c : Nat) (keep : List Int) (hr : Reads w w.heap.size 1 A n (ints keep)) (hn : n ≤ c) (hc : c ≤ maxLen) (hat : -9223372036854775808 ≤ at_ ∧ at_ ≤ 9223372036854775807) :
    Calls Tryz.prog 66 #[.pointer (some ⟨t, 0, none⟩), planV at_ dn A n c] w (RArmQ t at_ dn keep w) := by
  obtain ⟨i1, hi1, hy0, hy1, hy2⟩ := info_parts clone_int_info
  obtain ⟨W1, hW1⟩ : ∃ W1, W1 = w.alloc (.cells #[.int .i64 at_, .bool dn, .slice A n c] 35) := ⟨_, rfl⟩
  have hb1 : Below w.heap.size w W1 := by rw [hW1]; exact (Below.refl _ _).alloc (Nat.le_refl _) _
  have hs1 : W1.heap.size = w.heap.size + 1 := by rw [hW1]; simp
  have k1 : Blk W1 w.heap.size 35 #[.int .i64 at_, .bool dn, .slice A n c] := by rw [hW1]; exact Blk.new _ _ _
  have h1 := h.below hb1
  have p0 : W1.cell? ⟨w.heap.size, 0, none⟩ = some (.int .i64 at_) := k1.cell 0
  have p1 : W1.cell? ⟨w.heap.size, 1, none⟩ = some (.bool dn) := k1.cell 1
  have p2 : W1.cell? ⟨w.heap.size, 2, none⟩ = some (.slice A n c) := k1.cell 2
  have HV := Lib.hid (rt_valid h1)
  have hr1 := (hr.below hb1).more hb1.size
  have HCK := Lib.hid (rt_check at_ dn A n c keep W1 hr1 hn hc hat)
  have HR1 := Lib.hid hr1
  have H1 := Lib.hid h1
  have K1 := Lib.hid k1
  have HB1 := Lib.hid hb1
  have HS1 := Lib.hid hs1
  have hlen : keep.length = n := by have := hr.1; rw [ints_length] at this; omega
  have HLEN := Lib.hid hlen
  obtain ⟨ce, hce⟩ : ∃ ce : Int, (if okPlan at_ keep then 0 else 2) = ce := ⟨_, rfl⟩
  have HCE : Hid ((okPlan at_ keep ∧ ce = 0) ∨ (¬ okPlan at_ keep ∧ ce = 2)) := by
    show _ ∨ _
    by_cases e : okPlan at_ keep
    · exact .inl ⟨e, by rw [← hce, if_pos e]⟩
    · exact .inr ⟨e, by rw [← hce, if_neg e]⟩
  rw [hce] at HCK
  have HW1 := Lib.hid hW1
  unfold maxLen at hc
  unfold planV at HCK ⊢
  rw [hW1] at HV
  clear h hr hb1 hs1 k1 h1 hr1 hlen hce p0 p1 p2 hW1
  go_enter Tryz.func66, Tryz.ntmps66
  go_wp2_with fail
  rw [← HW1.out] at HV ⊢
  refine HV.out.mono ?_
  rintro e w' ⟨rfl, rfl⟩
  have p0 : W1.cell? ⟨w.heap.size, 0, none⟩ = some (.int .i64 at_) := K1.out.cell 0
  have p1 : W1.cell? ⟨w.heap.size, 1, none⟩ = some (.bool dn) := K1.out.cell 1
  have p2 : W1.cell? ⟨w.heap.size, 2, none⟩ = some (.slice A n c) := K1.out.cell 2
  go_wp2_with fail
  refine HCK.out.mono ?_
  rintro e w3 ⟨rfl, hb3⟩
  have HB3 := Lib.hid hb3
  clear p0 p1 p2 hb3 HV HCK
  rcases HCE.out with ⟨hok, rfl⟩ | ⟨hno, rfl⟩
  · have hn34 : n ≤ 34 := by have := hok.2.1.2; have := HLEN.out; omega
    have HOK := Lib.hid hok
    have k3 := K1.out.below HB3.out K1.out.lt
    have h3 := H1.out.below HB3.out
    obtain ⟨at0, dn0, A0, n0, c0, keep0, g1, g2, g3, g4, _, _, _⟩ := h3
    have p0 : w3.cell? ⟨w.heap.size, 0, none⟩ = some (.int .i64 at_) := k3.cell 0
    have p1 : w3.cell? ⟨w.heap.size, 1, none⟩ = some (.bool dn) := k3.cell 1
    have p2 : w3.cell? ⟨w.heap.size, 2, none⟩ = some (.slice A n c) := k3.cell 2
    have ha3 : Below w3.heap.size w3 (w3.alloc (.cells #[] 3)) := (Below.refl _ _).alloc (Nat.le_refl _) _
    have k3a := k3.below ha3 k3.lt
    have p0a : (w3.alloc (.cells #[] 3)).cell? ⟨w.heap.size, 0, none⟩ = some (.int .i64 at_) := k3a.cell 0
    have p1a : (w3.alloc (.cells #[] 3)).cell? ⟨w.heap.size, 1, none⟩ = some (.bool dn) := k3a.cell 1
    have p2a : (w3.alloc (.cells #[] 3)).cell? ⟨w.heap.size, 2, none⟩ = some (.slice A n c) := k3a.cell 2
    have HO := Lib.hid (madeI0 w3)
    have HRA : Hid (Reads (w3.alloc (.cells #[] 3)) w3.heap.size 1 A n (ints keep)) := ((HR1.out.below HB3.out).more HB3.out.size).alloc (Nat.le_refl _) _
    have G1 := Lib.hid g1
    have K3 := Lib.hid k3
    clear hok k3 g1 g2 g3 g4 ha3 k3a
    go_wp2_with fail
    go_region_law (first
      | (refine step_append_any _ (by rfl) (.tmp 16) (.tmp 18) _ (by rfl) w3.heap.size 3 i1 _ 1 8 Tryz.underlying33 hi1 hy0 hy1 hy2 (by rfl) (by omega) (.slice (some ⟨w3.heap.size, 0, none⟩) 0 0) 0 [] (by rfl)
            HO.out w3.heap.size A n c (ints keep) (by rfl) HRA.out (ints_one' _) (by simp only [maxLen]; omega) (by omega) (by simp) ?_; intro v2 w2 hown1 hg1 hat1
         have HB2 := Lib.hid ((((Below.refl w3.heap.size w3).alloc (Nat.le_refl _) (.cells #[] 3)).drew).grown hg1 (by simp) (by intro q hq; simp [Value.ownBlock] at hq; omega))
         rw [Nat.zero_add, List.nil_append] at hown1
         obtain ⟨A3, c3, rfl, _, _, _⟩ := own_slice hown1
         have HO2 := Lib.hid hown1
         have k4 := (K3.out.below HB2.out K3.out.lt)
         have g5 := (G1.out.below HB2.out G1.out.lt)
         have r0 : w2.cell? ⟨w.heap.size, 0, none⟩ = some (.int .i64 at_) := k4.cell 0
         have r1 : w2.cell? ⟨w.heap.size, 1, none⟩ = some (.bool dn) := k4.cell 1
         have s1 : w2.cell? ⟨t, 1, none⟩ = some (.int .i64 at0) := g5.cell 1
         have s2 : w2.cell? ⟨t, 2, none⟩ = some (.bool dn0) := g5.cell 2
         have s3 : w2.cell? ⟨t, 3, none⟩ = some (.slice A0 n0 c0) := g5.cell 3
         have u1 := g5.frozen 1
         have u2 := g5.frozen 2
         have u3 := g5.frozen 3
         clear k4 g5
         clear hown1 hg1 hat1))
    all_goals
      go_wp2_with fail
      go_ret
      have hch : Chg (fun k => k = t) w2 (((w2.setCell ⟨t, 1, none⟩ (.int .i64 at_)).setCell ⟨t, 2, none⟩ (.bool dn)).setCell ⟨t, 3, none⟩ (.slice A3 n c3)) := (((Chg.refl (fun k => k = t) w2).setCell (p := ⟨t, 1, none⟩) (.inl rfl) _).setCell (p := ⟨t, 2, none⟩) (.inl rfl) _).setCell (p := ⟨t, 3, none⟩) (.inl rfl) _
      have hb13 : Below w.heap.size w w3 := HB1.out.trans (HB3.out.mono HB1.out.size)
      have htlt : t < w.heap.size := by
        have h5 := G1.out.lt
        have h6 := H1.out.lt t (.inl rfl)
        have h7 := HS1.out
        apply Classical.byContradiction
        intro hne
        have h8 := K1.out
        obtain ⟨_, _, _, _, _, _, g9, _⟩ := H1.out
        have : t = w.heap.size := by omega
        subst this
        have h10 : W1.cell? ⟨w.heap.size, 0, none⟩ = _ := g9.cell 0
        have h11 : W1.cell? ⟨w.heap.size, 0, none⟩ = _ := h8.cell 0
        rw [h10] at h11
        simp at h11
      have hlo : ∀ k, (Value.slice A3 n c3).ownBlock = some k → w3.heap.size ≤ k := fun k hk => (HO2.out.lt k hk).1
      have hs3 := hb13.size
      refine .inr ⟨HOK.out, rfl, (Value.slice A3 n c3).ownBlock, ⟨at_, dn, A3, n, c3, keep, ?_, own_base (own_chg HO2.out hch (fun k hk e => by have := hlo k hk; omega)) (fun _ _ => Nat.zero_le _), rfl, fun e => by have := hlo t e; omega, hn34, HOK.out.1, rfl⟩, ?_, ?_⟩
      · exact (((G1.out.below HB2.out G1.out.lt).set_ 1 (.int .i64 at_)).set_ 2 (.bool dn)).set_ 3 (.slice A3 n c3)
      · exact (Chg.of_below (F := fun k => k = t) (hb13.trans (HB2.out.mono hs3))).trans hch (fun _ _ h => h)
      · rintro k (rfl | hk)
        · exact .inl rfl
        · have := hlo k hk; exact .inr (by omega)
  · go_wp2_with fail
    go_ret
    exact .inl ⟨hno, rfl, HB1.out.trans (HB3.out.mono HB1.out.size)⟩
end
end Go.Proofs.YteglaedkhopbgaaGreat
namespace Go.Proofs.YteglaedkhopbgaaGreat
open Go.RowKit Go.Shelf
set_option linter.unusedVariables false
section
variable {w w' : World} {t : Nat} {kb : Option Nat} {P : Option PlanD}
/-- What Plan gives. -/
def RPlanQ (w : World) (P : Option PlanD) (e : Ending) (w' : World) : Prop :=
  (P = none ∧ e = .returned (.tuple #[planV 0 false none 0 0, .bool false]) ∧ Below w.heap.size w w') ∨
    ∃ p A c, P = some p ∧ e = .returned (.tuple #[planV p.at_ p.dn A p.keep.length c, .bool true]) ∧ w'.ownsRow w.heap.size 3 1 (.slice A p.keep.length c) p.keep.length (ints p.keep) ∧ Below w.heap.size w w'
set_option maxRecDepth 100000 in
set_option maxHeartbeats 4000000 in
theorem rt_plan (h : IsRT w t kb P) :
    Calls Tryz.prog 91 #[.pointer (some ⟨t, 0, none⟩)] w (RPlanQ w P) := by
  obtain ⟨i1, hi1, hy0, hy1, hy2⟩ := info_parts clone_int_info
  obtain ⟨W1, hW1⟩ : ∃ W1, W1 = w.alloc (.cells #[.int .i64 0, .bool false, .slice none 0 0] 35) := ⟨_, rfl⟩
  have hb1 : Below w.heap.size w W1 := by rw [hW1]; exact (Below.refl _ _).alloc (Nat.le_refl _) _
  have hs1 : W1.heap.size = w.heap.size + 1 := by rw [hW1]; simp
  have k1 : Blk W1 w.heap.size 35 #[.int .i64 0, .bool false, .slice none 0 0] := by rw [hW1]; exact Blk.new _ _ _
  have h1 := h.below hb1
  have HV := Lib.hid (rt_valid h1)
  obtain ⟨at_, dn, A, n, c, keep, g1, g2, g3, g4, g5, g6, rfl⟩ := h1
  have q1 : W1.cell? ⟨t, 1, none⟩ = some (.int .i64 at_) := g1.cell 1
  have hne : t ≠ w.heap.size := by have := h.lt t (.inl rfl); omega
  have hlen : keep.length = n := by have := g2.1; rw [ints_length] at this; omega
  obtain ⟨A0, c0, e0, hnc, hcm, hrd⟩ := own_slice g2
  injection e0 with e1 e2 e3
  subst e1 e3
  have HLEN := Lib.hid hlen
  have HR := Lib.hid hrd
  have G1 := Lib.hid g1
  have K1 := Lib.hid k1
  have HB1 := Lib.hid hb1
  have HS1 := Lib.hid hs1
  have HNE := Lib.hid hne
  have HW1 := Lib.hid hW1
  unfold maxLen at hcm
  rw [hW1] at HV q1
  clear h hb1 hs1 k1 g1 g2 g3 g4 hne hlen hrd hW1
  by_cases h0 : at_ = 0
  · subst h0
    have f0 : (w.alloc (.cells #[.int .i64 0, .bool false, .slice none 0 0] 35)).cell? ⟨w.heap.size, 0, none⟩ = some (.int .i64 0) := by rw [← HW1.out]; exact K1.out.cell 0
    have f1 : (w.alloc (.cells #[.int .i64 0, .bool false, .slice none 0 0] 35)).cell? ⟨w.heap.size, 1, none⟩ = some (.bool false) := by rw [← HW1.out]; exact K1.out.cell 1
    have f2 : (w.alloc (.cells #[.int .i64 0, .bool false, .slice none 0 0] 35)).cell? ⟨w.heap.size, 2, none⟩ = some (.slice none 0 0) := by rw [← HW1.out]; exact K1.out.cell 2
    go_enter Tryz.func91, Tryz.ntmps91
    go_wp2_with fail
    refine HV.out.mono ?_
    rintro e w' ⟨rfl, rfl⟩
    go_wp2_with fail
    rw [← HW1.out]
    have e0 : W1.cell? ⟨w.heap.size, 0, none⟩ = some (.int .i64 0) := K1.out.cell 0
    have e1 : W1.cell? ⟨w.heap.size, 1, none⟩ = some (.bool false) := K1.out.cell 1
    have e2 : W1.cell? ⟨w.heap.size, 2, none⟩ = some (.slice none 0 0) := K1.out.cell 2
    refine bodyPost_ret (v := .tuple #[.agg #[.int .i64 0, .bool false, .slice none 0 0], .bool false]) (by simp [results, Tryz.f91, go_sem, e0, e1, e2]) rfl ?_
    exact .inl ⟨rfl, rfl, HB1.out⟩
  · have hz : (at_ == 0) = false := by rw [beq_eq_false_iff_ne]; exact h0
    have hP : Hid (armP at_ dn keep = some ⟨at_, dn, keep⟩) := by show _ = _; unfold armP; rw [if_pos (by omega)]
    have q2 : W1.cell? ⟨t, 2, none⟩ = some (.bool dn) := G1.out.cell 2
    have q3 : W1.cell? ⟨t, 3, none⟩ = some (.slice A n c) := G1.out.cell 3
    have ha : Below W1.heap.size W1 (W1.alloc (.cells #[] 3)) := (Below.refl _ _).alloc (Nat.le_refl _) _
    have g1a := G1.out.below ha G1.out.lt
    have q1a : (W1.alloc (.cells #[] 3)).cell? ⟨t, 1, none⟩ = some (.int .i64 at_) := g1a.cell 1
    have q2a : (W1.alloc (.cells #[] 3)).cell? ⟨t, 2, none⟩ = some (.bool dn) := g1a.cell 2
    have q3a : (W1.alloc (.cells #[] 3)).cell? ⟨t, 3, none⟩ = some (.slice A n c) := g1a.cell 3
    have HO := Lib.hid (madeI0 W1)
    have HRA : Hid (Reads (W1.alloc (.cells #[] 3)) W1.heap.size 1 A n (ints keep)) := HR.out.alloc (Nat.le_refl _) _
    clear ha g1a
    go_enter Tryz.func91, Tryz.ntmps91
    go_wp2_with fail
    refine HV.out.mono ?_
    rintro e w' ⟨rfl, rfl⟩
    rw [← HW1.out] at q1 ⊢
    clear HV
    go_wp2_with fail
    go_region_held3 (fun Y => Y.cell? ⟨t, 1, none⟩ = some (.int .i64 at_) ∧ Y.cell? ⟨t, 2, none⟩ = some (.bool dn) ∧ Y.cell? ⟨t, 3, none⟩ = some (.slice A n c)) (first | (refine ⟨?_, ?_, ?_⟩ <;> assumption) | go_keep) (first
      | (refine step_append_any _ (by rfl) (.tmp 26) (.tmp 31) _ (by rfl) W1.heap.size 3 i1 _ 1 8 Tryz.underlying33 hi1 hy0 hy1 hy2 (by rfl) (by omega) (.slice (some ⟨W1.heap.size, 0, none⟩) 0 0) 0 [] (by rfl)
            HO.out W1.heap.size A n c (ints keep) (by rfl) HRA.out (ints_one' _) (by simp only [maxLen]; omega) (by omega) (by simp) ?_; intro v2 w2 hown1 hg1 hat1
         have HB2 := Lib.hid ((((Below.refl W1.heap.size W1).alloc (Nat.le_refl _) (.cells #[] 3)).drew).grown hg1 (by simp) (by intro q hq; simp [Value.ownBlock] at hq; omega))
         rw [Nat.zero_add, List.nil_append] at hown1
         obtain ⟨A3, c3, rfl, _, _, _⟩ := own_slice hown1
         have HO2 := Lib.hid hown1
         have g5' := (G1.out.below HB2.out G1.out.lt)
         have k5' := (K1.out.below HB2.out K1.out.lt)
         have s1 : w2.cell? ⟨t, 1, none⟩ = some (.int .i64 at_) := g5'.cell 1
         have s2 : w2.cell? ⟨t, 2, none⟩ = some (.bool dn) := g5'.cell 2
         have s3 : w2.cell? ⟨t, 3, none⟩ = some (.slice A n c) := g5'.cell 3
         have x0 : w2.cell? ⟨w.heap.size, 0, none⟩ = some (.int .i64 0) := k5'.cell 0
         have x1 : w2.cell? ⟨w.heap.size, 1, none⟩ = some (.bool false) := k5'.cell 1
         have x2 : w2.cell? ⟨w.heap.size, 2, none⟩ = some (.slice none 0 0) := k5'.cell 2
         have y0 := k5'.frozen 0
         have y1 := k5'.frozen 1
         have y2 := k5'.frozen 2
         have hne1 := HNE.out
         have hne2 : w.heap.size ≠ t := fun e => HNE.out e.symm
         clear g5' k5'
         clear hown1 hg1 hat1))
    all_goals
      go_wp2_with fail
      obtain ⟨W5, hW5⟩ : ∃ W5, W5 = ((w2.setCell ⟨w.heap.size, 0, none⟩ (.int .i64 at_)).setCell ⟨w.heap.size, 1, none⟩ (.bool dn)).setCell ⟨w.heap.size, 2, none⟩ (.slice A3 n c3) := ⟨_, rfl⟩
      have hk : Blk W5 w.heap.size 35 #[.int .i64 at_, .bool dn, .slice A3 n c3] := by
        rw [hW5]
        exact (((K1.out.below HB2.out K1.out.lt).set_ 0 (.int .i64 at_)).set_ 1 (.bool dn)).set_ 2 (.slice A3 n c3)
      have hch : Chg (fun k => k = w.heap.size) w2 W5 := by
        rw [hW5]
        exact (((Chg.refl (fun k => k = w.heap.size) w2).setCell (p := ⟨w.heap.size, 0, none⟩) (.inl rfl) _).setCell (p := ⟨w.heap.size, 1, none⟩) (.inl rfl) _).setCell (p := ⟨w.heap.size, 2, none⟩) (.inl rfl) _
      rw [← hW5]
      have e0 : W5.cell? ⟨w.heap.size, 0, none⟩ = some (.int .i64 at_) := hk.cell 0
      have e1 : W5.cell? ⟨w.heap.size, 1, none⟩ = some (.bool dn) := hk.cell 1
      have e2 : W5.cell? ⟨w.heap.size, 2, none⟩ = some (.slice A3 n c3) := hk.cell 2
      refine bodyPost_ret (v := .tuple #[.agg #[.int .i64 at_, .bool dn, .slice A3 n c3], .bool true]) (by simp [results, Tryz.f91, go_sem, e0, e1, e2]) rfl ?_
      have hs1 := HS1.out
      have hl := HLEN.out
      refine .inr ⟨⟨at_, dn, keep⟩, A3, c3, hP.out, by rw [show (⟨at_, dn, keep⟩ : PlanD).keep.length = n from hl]; rfl, ?_, (HB1.out.trans (HB2.out.mono HB1.out.size)).trans (hch.below (by have := HB2.out.size; omega) (fun k hk => by have e : k = w.heap.size := hk; omega))⟩
      show W5.ownsRow _ _ _ (.slice A3 keep.length c3) keep.length (ints keep)
      rw [hl]
      refine own_base (own_chg HO2.out hch (fun k hk hF => ?_)) (fun k hk => ?_)
      · have := (HO2.out.lt k hk).1
        have e : k = w.heap.size := hF
        omega
      · have := (HO2.out.lt k hk).1
        omega
set_option maxRecDepth 100000 in
set_option maxHeartbeats 4000000 in
theorem rt_copy (h : IsRT w t kb P) :
    Calls Tryz.prog 70 #[.pointer (some ⟨t, 0, none⟩)] w fun e w' => ∃ t' kb', e = .returned (.pointer (some ⟨t', 0, none⟩)) ∧ IsRT w' t' kb' P ∧ (∀ k, rtfoot t' kb' k → w.heap.size ≤ k) ∧ Below w.heap.size w w' := by
  obtain ⟨i1, hi1, hy0, hy1, hy2⟩ := info_parts clone_int_info
  have HV := Lib.hid (rt_valid h)
  obtain ⟨at_, dn, A, n, c, keep, g1, g2, g3, g4, g5, g6, rfl⟩ := h
  have q1 : w.cell? ⟨t, 1, none⟩ = some (.int .i64 at_) := g1.cell 1
  have q2 : w.cell? ⟨t, 2, none⟩ = some (.bool dn) := g1.cell 2
  have q3 : w.cell? ⟨t, 3, none⟩ = some (.slice A n c) := g1.cell 3
  obtain ⟨A0, c0, e0, hnc, hcm, hrd⟩ := own_slice g2
  injection e0 with e1 e2 e3
  subst e1 e3
  have ha : Below w.heap.size w (w.alloc (.cells #[] 3)) := (Below.refl _ _).alloc (Nat.le_refl _) _
  have g1a := g1.below ha g1.lt
  have q1a : (w.alloc (.cells #[] 3)).cell? ⟨t, 1, none⟩ = some (.int .i64 at_) := g1a.cell 1
  have q2a : (w.alloc (.cells #[] 3)).cell? ⟨t, 2, none⟩ = some (.bool dn) := g1a.cell 2
  have q3a : (w.alloc (.cells #[] 3)).cell? ⟨t, 3, none⟩ = some (.slice A n c) := g1a.cell 3
  have HO := Lib.hid (madeI0 w)
  have HRA : Hid (Reads (w.alloc (.cells #[] 3)) w.heap.size 1 A n (ints keep)) := hrd.alloc (Nat.le_refl _) _
  have G1 := Lib.hid g1
  unfold maxLen at hcm
  clear g1 g2 g3 g4 ha g1a hrd
  go_enter Tryz.func70, Tryz.ntmps70
  go_wp2_with fail
  refine HV.out.mono ?_
  rintro e w' ⟨rfl, rfl⟩
  clear HV
  go_wp2_with fail
  go_region_held3 (fun Y => Y.cell? ⟨t, 1, none⟩ = some (.int .i64 at_) ∧ Y.cell? ⟨t, 2, none⟩ = some (.bool dn) ∧ Y.cell? ⟨t, 3, none⟩ = some (.slice A n c)) (first | (refine ⟨?_, ?_, ?_⟩ <;> assumption) | go_keep) (first
    | (refine step_append_any _ (by rfl) (.tmp 16) (.tmp 21) _ (by rfl) w.heap.size 3 i1 _ 1 8 Tryz.underlying33 hi1 hy0 hy1 hy2 (by rfl) (by omega) (.slice (some ⟨w.heap.size, 0, none⟩) 0 0) 0 [] (by rfl)
          HO.out w.heap.size A n c (ints keep) (by rfl) HRA.out (ints_one' _) (by simp only [maxLen]; omega) (by omega) (by simp) ?_; intro v2 w2 hown1 hg1 hat1
       have HB2 := Lib.hid ((((Below.refl w.heap.size w).alloc (Nat.le_refl _) (.cells #[] 3)).drew).grown hg1 (by simp) (by intro q hq; simp [Value.ownBlock] at hq; omega))
       rw [Nat.zero_add, List.nil_append] at hown1
       obtain ⟨A3, c3, rfl, _, _, _⟩ := own_slice hown1
       have HO2 := Lib.hid hown1
       have g5' := (G1.out.below HB2.out G1.out.lt)
       have s1 : w2.cell? ⟨t, 1, none⟩ = some (.int .i64 at_) := g5'.cell 1
       have s2 : w2.cell? ⟨t, 2, none⟩ = some (.bool dn) := g5'.cell 2
       have s3 : w2.cell? ⟨t, 3, none⟩ = some (.slice A n c) := g5'.cell 3
       clear g5'
       clear hown1 hg1 hat1))
  all_goals
    go_wp2_with fail
    go_ret
    have hlo : ∀ k, (Value.slice A3 n c3).ownBlock = some k → w.heap.size ≤ k ∧ k < w2.heap.size := fun k hk => HO2.out.lt k hk
    refine ⟨w2.heap.size, (Value.slice A3 n c3).ownBlock, rfl, ⟨at_, dn, A3, n, c3, keep, Blk.new _ _ _, own_base (own_below' HO2.out ((Below.refl _ _).alloc (Nat.le_refl _) _)) (fun _ _ => Nat.zero_le _), rfl, fun e => by have := hlo _ e; omega, g5, g6, rfl⟩, ?_, HB2.out.alloc HB2.out.size _⟩
    rintro k (rfl | hk)
    · exact HB2.out.size
    · exact (hlo k hk).1
end
end Go.Proofs.YteglaedkhopbgaaGreat

/-
  The document's timer: Check, New, Arm, Tick, Plan, Copy; The document's timer: Plan, Copy; The document's device: its parts as objects, and what looks; The document's device: counted, crash; The document's device: Append, Sync, Erase, Restart.
-/
import Derived.Test.YtnopljanpjmbgaaGreatMF
import Derived.Test.YtnopljanpjmbgaaGreatME
import Derived.Deep.RegionLaw
import Derived.Deep.RegionHeld3
import Derived.Test.YtnopljanpjmbgaaGreatMI
namespace Go.Proofs.YtnopljanpjmbgaaGreat
open Go.RowKit Go.Shelf
set_option linter.unusedVariables false
theorem madeI0 (w : World) : (w.alloc (.cells #[] 3)).ownsRow w.heap.size 3 1 (.slice (some ⟨w.heap.size, 0, none⟩) 0 0) 0 [] := World.ownsRow_made w #[] 0 (Nat.le_refl _) (by unfold maxLen; omega) (by simp)
/-- The document's timer in memory: its block, its numbers' block. -/
def IsRT (w : World) (t : Nat) (kb : Option Nat) (P : Option PlanD) : Prop :=
  ∃ (at_ : Int) (dn : Bool) (A : Option Addr) (n c : Nat) (keep : List Int), Blk w t 147 #[.bool true, .int .i64 at_, .bool dn, .slice A n c] ∧ w.ownsRow 0 3 1 (.slice A n c) n (ints keep) ∧ kb = (Value.slice A n c).ownBlock ∧ kb ≠ some t ∧ n ≤ 34 ∧ (0 ≤ at_ ∧ at_ ≤ 1000000) ∧ P = armP at_ dn keep
def rtfoot (t : Nat) (kb : Option Nat) : Nat → Prop := fun k => k = t ∨ kb = some k
section
variable {w w' : World} {t : Nat} {kb : Option Nat} {P : Option PlanD}
theorem IsRT.chg {F : Nat → Prop} (h : IsRT w t kb P) (hc : Chg F w w') (hF : ∀ k, rtfoot t kb k → ¬ F k) : IsRT w' t kb P := by
  obtain ⟨at_, dn, A, n, c, keep, h1, h2, h3, h4, h5, h6, h7⟩ := h
  exact ⟨at_, dn, A, n, c, keep, h1.chg hc (hF _ (.inl rfl)), own_chg h2 hc (fun k hk => hF k (.inr (h3.trans hk))), h3, h4, h5, h6, h7⟩
theorem IsRT.lt (h : IsRT w t kb P) : ∀ k, rtfoot t kb k → k < w.heap.size := by
  obtain ⟨at_, dn, A, n, c, keep, h1, h2, h3, h4, h5, h6, h7⟩ := h
  rintro k (rfl | hk)
  · exact h1.lt
  · exact (h2.lt k (h3.symm.trans hk)).2
theorem IsRT.below (h : IsRT w t kb P) (hb : Below w.heap.size w w') : IsRT w' t kb P := h.chg (F := fun _ => False) (Chg.of_below hb) (fun _ _ h => h)
set_option maxRecDepth 100000 in
set_option maxHeartbeats 400000 in
theorem rt_new (w : World) :
    Calls Tryz.prog 55 #[] w fun e w' => e = .returned (.pointer (some ⟨w.heap.size, 0, none⟩)) ∧ IsRT w' w.heap.size none none ∧ Below w.heap.size w w' := by
  go_enter Tryz.func55, Tryz.ntmps55
  go_wp2_with fail
  go_ret
  exact ⟨rfl, ⟨0, false, none, 0, 0, [], Blk.new _ _ _, World.ownsRow_nil _ _ _ _, rfl, by simp, by omega, by omega, rfl⟩, (Below.refl _ _).alloc (Nat.le_refl _) _⟩
set_option maxRecDepth 100000 in
set_option maxHeartbeats 400000 in
theorem rt_valid (h : IsRT w t kb P) :
    Calls Tryz.prog 122 #[.pointer (some ⟨t, 0, none⟩)] w fun e w' => e = .returned (.bool true) ∧ w = w' := by
  obtain ⟨at_, dn, A, n, c, keep, h1, _⟩ := h
  have q0 : w.cell? ⟨t, 0, none⟩ = some (.bool true) := h1.cell 0
  clear h1
  go_enter Tryz.func122, Tryz.ntmps122
  go_wp2_with fail
  go_ret
  exact ⟨rfl, rfl⟩
set_option maxRecDepth 100000 in
set_option maxHeartbeats 2000000 in
theorem rt_check (at_ : Int) (dn : Bool) (A : Option Addr) (n c : Nat) (keep : List Int) (w : World) (hr : Reads w w.heap.size 1 A n (ints keep)) (hn : n ≤ c) (hc : c ≤ maxLen) (hat : -9223372036854775808 ≤ at_ ∧ at_ ≤ 9223372036854775807) :
    Calls Tryz.prog 123 #[planV at_ dn A n c] w fun e w' => e = .returned (.int .i64 (if okPlan at_ keep then 0 else 2)) ∧ Below w.heap.size w w' := by
  have hlen : keep.length = n := by have := hr.1; rw [ints_length] at this; omega
  have HB1 : Hid (Below w.heap.size w (w.alloc (.cells #[.int .i64 at_, .bool dn, .slice A n c] 64))) := (Below.refl _ _).alloc (Nat.le_refl _) _
  have HR : Hid (∀ k, k < n → ∃ ad, A = some ad ∧ (w.alloc (.cells #[.int .i64 at_, .bool dn, .slice A n c] 64)).cell? (ad.add k) = some (.int .i64 (keep.getD k 0))) := fun k hk => by
    obtain ⟨ad, u, e, _, hx, hc⟩ := (hr.below HB1.out).at_ hk
    have hkz : k < keep.length := by omega
    rw [ints_at hkz] at hx
    injection hx with hx
    subst hx
    refine ⟨ad, e, ?_⟩
    rw [hc, List.getD_eq_getElem?_getD, List.getElem?_eq_getElem hkz, Option.getD_some]
  obtain ⟨E, hE⟩ : ∃ E : Int, (if okPlan at_ keep then 0 else 2) = E := ⟨_, rfl⟩
  have HE : Hid ((okPlan at_ keep → E = 0) ∧ (¬ okPlan at_ keep → E = 2)) := ⟨fun h => by rw [← hE, if_pos h], fun h => by rw [← hE, if_neg h]⟩
  have HLEN := Lib.hid hlen
  unfold maxLen at hc
  rw [hE]
  clear hr hlen hE
  unfold planV
  by_cases h1 : at_ < 0
  · obtain rfl : E = 2 := HE.out.2 (fun h => by have := h.1.1; omega)
    go_enter Tryz.func123, Tryz.ntmps123
    go_wp2_with fail
    go_ret
    exact ⟨rfl, HB1.out⟩
  by_cases h2 : 1000000 < at_
  · obtain rfl : E = 2 := HE.out.2 (fun h => by have := h.1.2; omega)
    go_enter Tryz.func123, Tryz.ntmps123
    go_wp2_with fail
    go_ret
    exact ⟨rfl, HB1.out⟩
  by_cases h3 : n < 1
  · obtain rfl : E = 2 := HE.out.2 (fun h => by have := h.2.1.1; have := HLEN.out; omega)
    go_enter Tryz.func123, Tryz.ntmps123
    go_wp2_with fail
    go_ret
    exact ⟨rfl, HB1.out⟩
  by_cases h4 : 34 < n
  · obtain rfl : E = 2 := HE.out.2 (fun h => by have := h.2.1.2; have := HLEN.out; omega)
    go_enter Tryz.func123, Tryz.ntmps123
    go_wp2_with fail
    go_ret
    exact ⟨rfl, HB1.out⟩
  obtain ⟨W1, hW1⟩ : ∃ W1, W1 = w.alloc (.cells #[.int .i64 at_, .bool dn, .slice A n c] 64) := ⟨_, rfl⟩
  have hbk : Blk W1 w.heap.size 64 #[.int .i64 at_, .bool dn, .slice A n c] := by rw [hW1]; exact Blk.new _ _ _
  have q2 : W1.cell? ⟨w.heap.size, 2, none⟩ = some (.slice A n c) := hbk.cell 2
  have HW1 := Lib.hid hW1
  rw [← hW1] at HR
  clear hbk hW1
  go_enter Tryz.func123, Tryz.ntmps123
  go_wp2_with fail
  rw [← HW1.out]
  go_loopg [3] n (fun q v3 wr => ∃ (j : Nat), j + q = n ∧ v3 = .int .i64 j ∧ (∀ k, k < j → 0 ≤ keep.getD k 0 ∧ keep.getD k 0 ≤ 8192) ∧ W1 = wr)
  case atStart => exact ⟨0, by omega, rfl, fun k hk => by omega, rfl⟩
  case round =>
    obtain ⟨j, hj, rfl, hb, rfl⟩ := hrel
    have HJ := Lib.hid hj
    have hj' : j ≤ n := by omega
    have HB := Lib.hid hb
    clear hj hb
    by_cases hlt : j < n
    · obtain ⟨ad, rfl, qc⟩ := HR.out j hlt
      obtain ⟨z, hz⟩ : ∃ z, keep.getD j 0 = z := ⟨_, rfl⟩
      rw [hz] at qc
      have HZ := Lib.hid hz
      have hbad : ¬ (0 ≤ z ∧ z ≤ 8192) → ¬ okPlan at_ keep := fun h hok => by
        apply h
        have hjl : j < keep.length := by rw [HLEN.out]; exact hlt
        have := hok.2.2 keep[j] (List.getElem_mem hjl)
        rw [← HZ.out, List.getD_eq_getElem?_getD, List.getElem?_eq_getElem hjl, Option.getD_some]
        exact this
      have HBAD := Lib.hid hbad
      clear hz hbad
      by_cases z1 : z < 0
      · obtain rfl : E = 2 := HE.out.2 (HBAD.out (by omega))
        go_wp2_with fail
        go_ret
        exact ⟨rfl, by rw [HW1.out]; exact HB1.out⟩
      by_cases z2 : 8192 < z
      · obtain rfl : E = 2 := HE.out.2 (HBAD.out (by omega))
        go_wp2_with fail
        go_ret
        exact ⟨rfl, by rw [HW1.out]; exact HB1.out⟩
      go_wp2_with fail
      go_roundg (gk - 1)
      case measure => have := HJ.out; omega
      case rel =>
        refine ⟨j + 1, by have := HJ.out; omega, by go_num, fun k hk => ?_, rfl⟩
        by_cases e : k = j
        · subst e; rw [HZ.out]; omega
        · exact HB.out k (by omega)
    · have e8 : j = n := by omega
      subst e8
      obtain rfl : E = 0 := HE.out.1 ⟨⟨by omega, by omega⟩, ⟨by have := HLEN.out; omega, by have := HLEN.out; omega⟩, fun z hz => by
        obtain ⟨k, hk, rfl⟩ := List.mem_iff_getElem.1 hz
        have := HB.out k (by rw [← HLEN.out]; exact hk)
        rw [List.getD_eq_getElem?_getD, List.getElem?_eq_getElem hk, Option.getD_some] at this
        exact this⟩
      go_wp2_with fail
      go_ret
      exact ⟨rfl, by rw [HW1.out]; exact HB1.out⟩
set_option maxRecDepth 100000 in
set_option maxHeartbeats 1000000 in
theorem rt_tick (h : IsRT w t kb P) :
    Calls Tryz.prog 117 #[.pointer (some ⟨t, 0, none⟩)] w fun e w' => e = .returned (.bool (tickB P)) ∧ IsRT w' t kb (tickP P) ∧ Chg (fun k => k = t) w w' := by
  have HV := Lib.hid (rt_valid h)
  obtain ⟨at_, dn, A, n, c, keep, h1, h2, h3, h4, h5, h6, rfl⟩ := h
  have q1 : w.cell? ⟨t, 1, none⟩ = some (.int .i64 at_) := h1.cell 1
  have f1 := h1.frozen 1
  have H1 := Lib.hid h1
  have H2 := Lib.hid h2
  have H3 := Lib.hid h3
  have H4 := Lib.hid h4
  clear h1 h2 h3 h4
  by_cases h0 : at_ = 0
  · subst h0
    go_enter Tryz.func117, Tryz.ntmps117
    go_wp2_with fail
    refine HV.out.mono ?_
    rintro e w' ⟨rfl, rfl⟩
    go_wp2_with fail
    go_ret
    exact ⟨rfl, ⟨0, dn, A, n, c, keep, H1.out, H2.out, H3.out, H4.out, h5, h6, rfl⟩, Chg.refl _ _⟩
  · have hz : (at_ == 0) = false := by rw [beq_eq_false_iff_ne]; exact h0
    obtain ⟨w1, hw1⟩ : ∃ w1, w1 = w.setCell ⟨t, 1, none⟩ (.int .i64 (at_ - 1)) := ⟨_, rfl⟩
    have g1 : Blk w1 t 147 #[.bool true, .int .i64 (at_ - 1), .bool dn, .slice A n c] := by rw [hw1]; exact H1.out.set_ 1 (.int .i64 (at_ - 1))
    have hc1 : Chg (fun k => k = t) w w1 := by rw [hw1]; exact (Chg.refl (fun k => k = t) w).setCell (p := ⟨t, 1, none⟩) (.inl rfl) _
    have y1 : w1.cell? ⟨t, 1, none⟩ = some (.int .i64 (at_ - 1)) := g1.cell 1
    have hP : armP at_ dn keep = some ⟨at_, dn, keep⟩ := by unfold armP; rw [if_pos (by omega)]
    have HT : Hid (IsRT w1 t kb (tickP (armP at_ dn keep)) ∧ tickB (armP at_ dn keep) = (at_ - 1 == 0)) := by
      rw [hP]
      refine ⟨⟨at_ - 1, dn, A, n, c, keep, g1, own_chg H2.out hc1 (fun k hk e => H4.out (by rw [H3.out, hk, e])), H3.out, H4.out, h5, by omega, rfl⟩, ?_⟩
      show decide (¬ 0 < at_ - 1) = _
      by_cases e : at_ = 1
      · subst e; rfl
      · rw [show (at_ - 1 == 0) = false from by rw [beq_eq_false_iff_ne]; omega]
        simp
        omega
    have HC1 := Lib.hid hc1
    have HW1 := Lib.hid hw1
    rw [HT.out.2]
    clear g1 hc1 hP hw1
    go_enter Tryz.func117, Tryz.ntmps117
    go_wp2_with fail
    refine HV.out.mono ?_
    rintro e w' ⟨rfl, rfl⟩
    rw [HW1.out] at y1
    go_wp2_with fail
    rw [← HW1.out]
    go_ret
    exact ⟨rfl, HT.out.1, HC1.out⟩
/-- What Arm leaves. -/
def RArmQ (t : Nat) (at_ : Int) (dn : Bool) (keep : List Int) (w : World) (e : Ending) (w' : World) : Prop :=
  (¬ okPlan at_ keep ∧ e = .returned (.int .i64 2) ∧ Below w.heap.size w w') ∨
    (okPlan at_ keep ∧ e = .returned (.int .i64 0) ∧ ∃ kb', IsRT w' t kb' (armP at_ dn keep) ∧ Chg (fun k => k = t) w w' ∧ ∀ k, rtfoot t kb' k → k = t ∨ w.heap.size ≤ k)
set_option maxRecDepth 100000 in
set_option maxHeartbeats 4000000 in
theorem rt_arm (h : IsRT w t kb P) (at_ : Int) (dn : Bool) (A : Option Addr) (n c : Nat) (keep : List Int) (hr : Reads w w.heap.size 1 A n (ints keep)) (hn : n ≤ c) (hc : c ≤ maxLen) (hat : -9223372036854775808 ≤ at_ ∧ at_ ≤ 9223372036854775807) :
    Calls Tryz.prog 75 #[.pointer (some ⟨t, 0, none⟩), planV at_ dn A n c] w (RArmQ t at_ dn keep w) := by
  obtain ⟨i1, hi1, hy0, hy1, hy2⟩ := info_parts clone_int_info
  obtain ⟨W1, hW1⟩ : ∃ W1, W1 = w.alloc (.cells #[.int .i64 at_, .bool dn, .slice A n c] 64) := ⟨_, rfl⟩
  have hb1 : Below w.heap.size w W1 := by rw [hW1]; exact (Below.refl _ _).alloc (Nat.le_refl _) _
  have hs1 : W1.heap.size = w.heap.size + 1 := by rw [hW1]; simp
  have k1 : Blk W1 w.heap.size 64 #[.int .i64 at_, .bool dn, .slice A n c] := by rw [hW1]; exact Blk.new _ _ _
  have h1 := h.below hb1
  have p0 : W1.cell? ⟨w.heap.size, 0, none⟩ = some (.int .i64 at_) := k1.cell 0
  have p1 : W1.cell? ⟨w.heap.size, 1, none⟩ = some (.bool dn) := k1.cell 1
  have p2 : W1.cell? ⟨w.heap.size, 2, none⟩ = some (.slice A n c) := k1.cell 2
  have HV := Lib.hid (rt_valid h1)
  have hr1 := (hr.below hb1).more hb1.size
  have HCK := Lib.hid (rt_check at_ dn A n c keep W1 hr1 hn hc hat)
  have HR1 := Lib.hid hr1
  have H1 := Lib.hid h1
  have K1 := Lib.hid k1
  have HB1 := Lib.hid hb1
  have HS1 := Lib.hid hs1
  have hlen : keep.length = n := by have := hr.1; rw [ints_length] at this; omega
  have HLEN := Lib.hid hlen
  obtain ⟨ce, hce⟩ : ∃ ce : Int, (if okPlan at_ keep then 0 else 2) = ce := ⟨_, rfl⟩
  have HCE : Hid ((okPlan at_ keep ∧ ce = 0) ∨ (¬ okPlan at_ keep ∧ ce = 2)) := by
    show _ ∨ _
    by_cases e : okPlan at_ keep
    · exact .inl ⟨e, by rw [← hce, if_pos e]⟩
    · exact .inr ⟨e, by rw [← hce, if_neg e]⟩
  rw [hce] at HCK
  have HW1 := Lib.hid hW1
  unfold maxLen at hc
  unfold planV at HCK ⊢
  rw [hW1] at HV
  clear h hr hb1 hs1 k1 h1 hr1 hlen hce p0 p1 p2 hW1
  go_enter Tryz.func75, Tryz.ntmps75
  go_wp2_with fail
  rw [← HW1.out] at HV ⊢
  refine HV.out.mono ?_
  rintro e w' ⟨rfl, rfl⟩
  have p0 : W1.cell? ⟨w.heap.size, 0, none⟩ = some (.int .i64 at_) := K1.out.cell 0
  have p1 : W1.cell? ⟨w.heap.size, 1, none⟩ = some (.bool dn) := K1.out.cell 1
  have p2 : W1.cell? ⟨w.heap.size, 2, none⟩ = some (.slice A n c) := K1.out.cell 2
  go_wp2_with fail
  refine HCK.out.mono ?_
  rintro e w3 ⟨rfl, hb3⟩
  have HB3 := Lib.hid hb3
  clear p0 p1 p2 hb3 HV HCK
  rcases HCE.out with ⟨hok, rfl⟩ | ⟨hno, rfl⟩
  · have hn34 : n ≤ 34 := by have := hok.2.1.2; have := HLEN.out; omega
    have HOK := Lib.hid hok
    have k3 := K1.out.below HB3.out K1.out.lt
    have h3 := H1.out.below HB3.out
    obtain ⟨at0, dn0, A0, n0, c0, keep0, g1, g2, g3, g4, _, _, _⟩ := h3
    have p0 : w3.cell? ⟨w.heap.size, 0, none⟩ = some (.int .i64 at_) := k3.cell 0
    have p1 : w3.cell? ⟨w.heap.size, 1, none⟩ = some (.bool dn) := k3.cell 1
    have p2 : w3.cell? ⟨w.heap.size, 2, none⟩ = some (.slice A n c) := k3.cell 2
    have ha3 : Below w3.heap.size w3 (w3.alloc (.cells #[] 3)) := (Below.refl _ _).alloc (Nat.le_refl _) _
    have k3a := k3.below ha3 k3.lt
    have p0a : (w3.alloc (.cells #[] 3)).cell? ⟨w.heap.size, 0, none⟩ = some (.int .i64 at_) := k3a.cell 0
    have p1a : (w3.alloc (.cells #[] 3)).cell? ⟨w.heap.size, 1, none⟩ = some (.bool dn) := k3a.cell 1
    have p2a : (w3.alloc (.cells #[] 3)).cell? ⟨w.heap.size, 2, none⟩ = some (.slice A n c) := k3a.cell 2
    have HO := Lib.hid (madeI0 w3)
    have HRA : Hid (Reads (w3.alloc (.cells #[] 3)) w3.heap.size 1 A n (ints keep)) := ((HR1.out.below HB3.out).more HB3.out.size).alloc (Nat.le_refl _) _
    have G1 := Lib.hid g1
    have K3 := Lib.hid k3
    clear hok k3 g1 g2 g3 g4 ha3 k3a
    go_wp2_with fail
    go_region_law (first
      | (refine step_append_any _ (by rfl) (.tmp 16) (.tmp 18) _ (by rfl) w3.heap.size 3 i1 _ 1 8 Tryz.underlying62 hi1 hy0 hy1 hy2 (by rfl) (by omega) (.slice (some ⟨w3.heap.size, 0, none⟩) 0 0) 0 [] (by rfl)
            HO.out w3.heap.size A n c (ints keep) (by rfl) HRA.out (ints_one' _) (by simp only [maxLen]; omega) (by omega) (by simp) ?_; intro v2 w2 hown1 hg1 hat1
         have HB2 := Lib.hid ((((Below.refl w3.heap.size w3).alloc (Nat.le_refl _) (.cells #[] 3)).drew).grown hg1 (by simp) (by intro q hq; simp [Value.ownBlock] at hq; omega))
         rw [Nat.zero_add, List.nil_append] at hown1
         obtain ⟨A3, c3, rfl, _, _, _⟩ := own_slice hown1
         have HO2 := Lib.hid hown1
         have k4 := (K3.out.below HB2.out K3.out.lt)
         have g5 := (G1.out.below HB2.out G1.out.lt)
         have r0 : w2.cell? ⟨w.heap.size, 0, none⟩ = some (.int .i64 at_) := k4.cell 0
         have r1 : w2.cell? ⟨w.heap.size, 1, none⟩ = some (.bool dn) := k4.cell 1
         have s1 : w2.cell? ⟨t, 1, none⟩ = some (.int .i64 at0) := g5.cell 1
         have s2 : w2.cell? ⟨t, 2, none⟩ = some (.bool dn0) := g5.cell 2
         have s3 : w2.cell? ⟨t, 3, none⟩ = some (.slice A0 n0 c0) := g5.cell 3
         have u1 := g5.frozen 1
         have u2 := g5.frozen 2
         have u3 := g5.frozen 3
         clear k4 g5
         clear hown1 hg1 hat1))
    all_goals
      go_wp2_with fail
      go_ret
      have hch : Chg (fun k => k = t) w2 (((w2.setCell ⟨t, 1, none⟩ (.int .i64 at_)).setCell ⟨t, 2, none⟩ (.bool dn)).setCell ⟨t, 3, none⟩ (.slice A3 n c3)) := (((Chg.refl (fun k => k = t) w2).setCell (p := ⟨t, 1, none⟩) (.inl rfl) _).setCell (p := ⟨t, 2, none⟩) (.inl rfl) _).setCell (p := ⟨t, 3, none⟩) (.inl rfl) _
      have hb13 : Below w.heap.size w w3 := HB1.out.trans (HB3.out.mono HB1.out.size)
      have htlt : t < w.heap.size := by
        have h5 := G1.out.lt
        have h6 := H1.out.lt t (.inl rfl)
        have h7 := HS1.out
        apply Classical.byContradiction
        intro hne
        have h8 := K1.out
        obtain ⟨_, _, _, _, _, _, g9, _⟩ := H1.out
        have : t = w.heap.size := by omega
        subst this
        have h10 : W1.cell? ⟨w.heap.size, 0, none⟩ = _ := g9.cell 0
        have h11 : W1.cell? ⟨w.heap.size, 0, none⟩ = _ := h8.cell 0
        rw [h10] at h11
        simp at h11
      have hlo : ∀ k, (Value.slice A3 n c3).ownBlock = some k → w3.heap.size ≤ k := fun k hk => (HO2.out.lt k hk).1
      have hs3 := hb13.size
      refine .inr ⟨HOK.out, rfl, (Value.slice A3 n c3).ownBlock, ⟨at_, dn, A3, n, c3, keep, ?_, own_base (own_chg HO2.out hch (fun k hk e => by have := hlo k hk; omega)) (fun _ _ => Nat.zero_le _), rfl, fun e => by have := hlo t e; omega, hn34, HOK.out.1, rfl⟩, ?_, ?_⟩
      · exact (((G1.out.below HB2.out G1.out.lt).set_ 1 (.int .i64 at_)).set_ 2 (.bool dn)).set_ 3 (.slice A3 n c3)
      · exact (Chg.of_below (F := fun k => k = t) (hb13.trans (HB2.out.mono hs3))).trans hch (fun _ _ h => h)
      · rintro k (rfl | hk)
        · exact .inl rfl
        · have := hlo k hk; exact .inr (by omega)
  · go_wp2_with fail
    go_ret
    exact .inl ⟨hno, rfl, HB1.out.trans (HB3.out.mono HB1.out.size)⟩
end
end Go.Proofs.YtnopljanpjmbgaaGreat
namespace Go.Proofs.YtnopljanpjmbgaaGreat
open Go.RowKit Go.Shelf
set_option linter.unusedVariables false
section
variable {w w' : World} {t : Nat} {kb : Option Nat} {P : Option PlanD}
/-- What Plan gives. -/
def RPlanQ (w : World) (P : Option PlanD) (e : Ending) (w' : World) : Prop :=
  (P = none ∧ e = .returned (.tuple #[planV 0 false none 0 0, .bool false]) ∧ Below w.heap.size w w') ∨
    ∃ p A c, P = some p ∧ e = .returned (.tuple #[planV p.at_ p.dn A p.keep.length c, .bool true]) ∧ w'.ownsRow w.heap.size 3 1 (.slice A p.keep.length c) p.keep.length (ints p.keep) ∧ Below w.heap.size w w'
set_option maxRecDepth 100000 in
set_option maxHeartbeats 4000000 in
theorem rt_plan (h : IsRT w t kb P) :
    Calls Tryz.prog 116 #[.pointer (some ⟨t, 0, none⟩)] w (RPlanQ w P) := by
  obtain ⟨i1, hi1, hy0, hy1, hy2⟩ := info_parts clone_int_info
  obtain ⟨W1, hW1⟩ : ∃ W1, W1 = w.alloc (.cells #[.int .i64 0, .bool false, .slice none 0 0] 64) := ⟨_, rfl⟩
  have hb1 : Below w.heap.size w W1 := by rw [hW1]; exact (Below.refl _ _).alloc (Nat.le_refl _) _
  have hs1 : W1.heap.size = w.heap.size + 1 := by rw [hW1]; simp
  have k1 : Blk W1 w.heap.size 64 #[.int .i64 0, .bool false, .slice none 0 0] := by rw [hW1]; exact Blk.new _ _ _
  have h1 := h.below hb1
  have HV := Lib.hid (rt_valid h1)
  obtain ⟨at_, dn, A, n, c, keep, g1, g2, g3, g4, g5, g6, rfl⟩ := h1
  have q1 : W1.cell? ⟨t, 1, none⟩ = some (.int .i64 at_) := g1.cell 1
  have hne : t ≠ w.heap.size := by have := h.lt t (.inl rfl); omega
  have hlen : keep.length = n := by have := g2.1; rw [ints_length] at this; omega
  obtain ⟨A0, c0, e0, hnc, hcm, hrd⟩ := own_slice g2
  injection e0 with e1 e2 e3
  subst e1 e3
  have HLEN := Lib.hid hlen
  have HR := Lib.hid hrd
  have G1 := Lib.hid g1
  have K1 := Lib.hid k1
  have HB1 := Lib.hid hb1
  have HS1 := Lib.hid hs1
  have HNE := Lib.hid hne
  have HW1 := Lib.hid hW1
  unfold maxLen at hcm
  rw [hW1] at HV q1
  clear h hb1 hs1 k1 g1 g2 g3 g4 hne hlen hrd hW1
  by_cases h0 : at_ = 0
  · subst h0
    have f0 : (w.alloc (.cells #[.int .i64 0, .bool false, .slice none 0 0] 64)).cell? ⟨w.heap.size, 0, none⟩ = some (.int .i64 0) := by rw [← HW1.out]; exact K1.out.cell 0
    have f1 : (w.alloc (.cells #[.int .i64 0, .bool false, .slice none 0 0] 64)).cell? ⟨w.heap.size, 1, none⟩ = some (.bool false) := by rw [← HW1.out]; exact K1.out.cell 1
    have f2 : (w.alloc (.cells #[.int .i64 0, .bool false, .slice none 0 0] 64)).cell? ⟨w.heap.size, 2, none⟩ = some (.slice none 0 0) := by rw [← HW1.out]; exact K1.out.cell 2
    go_enter Tryz.func116, Tryz.ntmps116
    go_wp2_with fail
    refine HV.out.mono ?_
    rintro e w' ⟨rfl, rfl⟩
    go_wp2_with fail
    rw [← HW1.out]
    have e0 : W1.cell? ⟨w.heap.size, 0, none⟩ = some (.int .i64 0) := K1.out.cell 0
    have e1 : W1.cell? ⟨w.heap.size, 1, none⟩ = some (.bool false) := K1.out.cell 1
    have e2 : W1.cell? ⟨w.heap.size, 2, none⟩ = some (.slice none 0 0) := K1.out.cell 2
    refine bodyPost_ret (v := .tuple #[.agg #[.int .i64 0, .bool false, .slice none 0 0], .bool false]) (by simp [results, Tryz.f116, go_sem, e0, e1, e2]) rfl ?_
    exact .inl ⟨rfl, rfl, HB1.out⟩
  · have hz : (at_ == 0) = false := by rw [beq_eq_false_iff_ne]; exact h0
    have hP : Hid (armP at_ dn keep = some ⟨at_, dn, keep⟩) := by show _ = _; unfold armP; rw [if_pos (by omega)]
    have q2 : W1.cell? ⟨t, 2, none⟩ = some (.bool dn) := G1.out.cell 2
    have q3 : W1.cell? ⟨t, 3, none⟩ = some (.slice A n c) := G1.out.cell 3
    have ha : Below W1.heap.size W1 (W1.alloc (.cells #[] 3)) := (Below.refl _ _).alloc (Nat.le_refl _) _
    have g1a := G1.out.below ha G1.out.lt
    have q1a : (W1.alloc (.cells #[] 3)).cell? ⟨t, 1, none⟩ = some (.int .i64 at_) := g1a.cell 1
    have q2a : (W1.alloc (.cells #[] 3)).cell? ⟨t, 2, none⟩ = some (.bool dn) := g1a.cell 2
    have q3a : (W1.alloc (.cells #[] 3)).cell? ⟨t, 3, none⟩ = some (.slice A n c) := g1a.cell 3
    have HO := Lib.hid (madeI0 W1)
    have HRA : Hid (Reads (W1.alloc (.cells #[] 3)) W1.heap.size 1 A n (ints keep)) := HR.out.alloc (Nat.le_refl _) _
    clear ha g1a
    go_enter Tryz.func116, Tryz.ntmps116
    go_wp2_with fail
    refine HV.out.mono ?_
    rintro e w' ⟨rfl, rfl⟩
    rw [← HW1.out] at q1 ⊢
    clear HV
    go_wp2_with fail
    go_region_held3 (fun Y => Y.cell? ⟨t, 1, none⟩ = some (.int .i64 at_) ∧ Y.cell? ⟨t, 2, none⟩ = some (.bool dn) ∧ Y.cell? ⟨t, 3, none⟩ = some (.slice A n c)) (first | (refine ⟨?_, ?_, ?_⟩ <;> assumption) | go_keep) (first
      | (refine step_append_any _ (by rfl) (.tmp 26) (.tmp 31) _ (by rfl) W1.heap.size 3 i1 _ 1 8 Tryz.underlying62 hi1 hy0 hy1 hy2 (by rfl) (by omega) (.slice (some ⟨W1.heap.size, 0, none⟩) 0 0) 0 [] (by rfl)
            HO.out W1.heap.size A n c (ints keep) (by rfl) HRA.out (ints_one' _) (by simp only [maxLen]; omega) (by omega) (by simp) ?_; intro v2 w2 hown1 hg1 hat1
         have HB2 := Lib.hid ((((Below.refl W1.heap.size W1).alloc (Nat.le_refl _) (.cells #[] 3)).drew).grown hg1 (by simp) (by intro q hq; simp [Value.ownBlock] at hq; omega))
         rw [Nat.zero_add, List.nil_append] at hown1
         obtain ⟨A3, c3, rfl, _, _, _⟩ := own_slice hown1
         have HO2 := Lib.hid hown1
         have g5' := (G1.out.below HB2.out G1.out.lt)
         have k5' := (K1.out.below HB2.out K1.out.lt)
         have s1 : w2.cell? ⟨t, 1, none⟩ = some (.int .i64 at_) := g5'.cell 1
         have s2 : w2.cell? ⟨t, 2, none⟩ = some (.bool dn) := g5'.cell 2
         have s3 : w2.cell? ⟨t, 3, none⟩ = some (.slice A n c) := g5'.cell 3
         have x0 : w2.cell? ⟨w.heap.size, 0, none⟩ = some (.int .i64 0) := k5'.cell 0
         have x1 : w2.cell? ⟨w.heap.size, 1, none⟩ = some (.bool false) := k5'.cell 1
         have x2 : w2.cell? ⟨w.heap.size, 2, none⟩ = some (.slice none 0 0) := k5'.cell 2
         have y0 := k5'.frozen 0
         have y1 := k5'.frozen 1
         have y2 := k5'.frozen 2
         have hne1 := HNE.out
         have hne2 : w.heap.size ≠ t := fun e => HNE.out e.symm
         clear g5' k5'
         clear hown1 hg1 hat1))
    all_goals
      go_wp2_with fail
      obtain ⟨W5, hW5⟩ : ∃ W5, W5 = ((w2.setCell ⟨w.heap.size, 0, none⟩ (.int .i64 at_)).setCell ⟨w.heap.size, 1, none⟩ (.bool dn)).setCell ⟨w.heap.size, 2, none⟩ (.slice A3 n c3) := ⟨_, rfl⟩
      have hk : Blk W5 w.heap.size 64 #[.int .i64 at_, .bool dn, .slice A3 n c3] := by
        rw [hW5]
        exact (((K1.out.below HB2.out K1.out.lt).set_ 0 (.int .i64 at_)).set_ 1 (.bool dn)).set_ 2 (.slice A3 n c3)
      have hch : Chg (fun k => k = w.heap.size) w2 W5 := by
        rw [hW5]
        exact (((Chg.refl (fun k => k = w.heap.size) w2).setCell (p := ⟨w.heap.size, 0, none⟩) (.inl rfl) _).setCell (p := ⟨w.heap.size, 1, none⟩) (.inl rfl) _).setCell (p := ⟨w.heap.size, 2, none⟩) (.inl rfl) _
      rw [← hW5]
      have e0 : W5.cell? ⟨w.heap.size, 0, none⟩ = some (.int .i64 at_) := hk.cell 0
      have e1 : W5.cell? ⟨w.heap.size, 1, none⟩ = some (.bool dn) := hk.cell 1
      have e2 : W5.cell? ⟨w.heap.size, 2, none⟩ = some (.slice A3 n c3) := hk.cell 2
      refine bodyPost_ret (v := .tuple #[.agg #[.int .i64 at_, .bool dn, .slice A3 n c3], .bool true]) (by simp [results, Tryz.f116, go_sem, e0, e1, e2]) rfl ?_
      have hs1 := HS1.out
      have hl := HLEN.out
      refine .inr ⟨⟨at_, dn, keep⟩, A3, c3, hP.out, by rw [show (⟨at_, dn, keep⟩ : PlanD).keep.length = n from hl]; rfl, ?_, (HB1.out.trans (HB2.out.mono HB1.out.size)).trans (hch.below (by have := HB2.out.size; omega) (fun k hk => by have e : k = w.heap.size := hk; omega))⟩
      show W5.ownsRow _ _ _ (.slice A3 keep.length c3) keep.length (ints keep)
      rw [hl]
      refine own_base (own_chg HO2.out hch (fun k hk hF => ?_)) (fun k hk => ?_)
      · have := (HO2.out.lt k hk).1
        have e : k = w.heap.size := hF
        omega
      · have := (HO2.out.lt k hk).1
        omega
end
end Go.Proofs.YtnopljanpjmbgaaGreat
namespace Go.Proofs.YtnopljanpjmbgaaGreat
open Go.RowKit Go.Shelf
set_option linter.unusedVariables false
def rtOb (t : Nat) (kb : Option Nat) (P : Option PlanD) : Ob where
  P w := IsRT w t kb P
  F := rtfoot t kb
  keep hc hF h := h.chg hc hF
  lt h k hk := h.lt k hk
theorem cellOb_rt (t : Nat) (kb : Option Nat) (P : Option PlanD) : CellOb (rtOb t kb P) := fun w h k hk => by
  have h' : IsRT w t kb P := h
  have hk' : rtfoot t kb k := hk
  obtain ⟨at_, dn, A, n, c, keep, h1, h2, h3, _⟩ := h'
  rcases hk' with rfl | e
  · exact blk_cells h1
  · exact own_cells h2 k (h3.symm.trans e)
/-- Where its parts lie; what its disk's bytes may be shared with. -/
structure RLay where
  g : Nat
  t : Nat
  kb : Option Nat
  S : Nat → Prop
  l : List (Nat × (Nat → SlotD))
def rdCells (R : RLay) (X : DevD) : Array Value := #[.int .i64 (X.n : Int), .pointer (some ⟨R.g, 0, none⟩), .pointer (some ⟨R.t, 0, none⟩), .int .i64 (X.ops : Int), .bool X.down]
structure IsRD (w : World) (r : Nat) (R : RLay) (X : DevD) : Prop where
  blk : Blk w r 105 (rdCells R X)
  disk : IsR w R.S R.g (X.n + 2) X.D
  tm : IsRT w R.t R.kb X.T
  ok : X.Ok
def rv3 (r : Nat) (R : RLay) (X : DevD) (os : List Ob) : List Ob := blkOb r 105 (rdCells R X) :: refsOb R.S (X.n + 2) ((R.g, X.D) :: R.l) :: rtOb R.t R.kb X.T :: os
theorem rv3_cells {r : Nat} {R : RLay} {X : DevD} {os : List Ob} (h : AllCells os) : AllCells (rv3 r R X os) := AllCells.cons (cellOb_blk _ _ _) (AllCells.cons (cellOb_refs _ _ _) (AllCells.cons (cellOb_rt _ _ _) h))
section
variable {B : Nat} {w w' w0 : World} {os : List Ob} {r : Nat} {R : RLay} {X : DevD}
theorem Sep.rd (h : Sep B w0 w (rv3 r R X os)) (hX : X.Ok) : IsRD w r R X := by
  have h1 : Blk w r 105 (rdCells R X) := h.get (.head _)
  have h2 : IsR w R.S R.g (X.n + 2) X.D := h.ref1
  have h3 : IsRT w R.t R.kb X.T := h.get (.tail _ (.tail _ (.head _)))
  exact ⟨h1, h2, h3, hX⟩
theorem IsRD.below (h : IsRD w r R X) (hb : Below w.heap.size w w') : IsRD w' r R X := ⟨h.blk.below hb h.blk.lt, h.disk.below hb, h.tm.below hb, h.ok⟩
theorem IsRD.c0 (h : IsRD w r R X) : w.cell? ⟨r, 0, none⟩ = some (.int .i64 (X.n : Int)) := h.blk.cell 0
theorem IsRD.c1 (h : IsRD w r R X) : w.cell? ⟨r, 1, none⟩ = some (.pointer (some ⟨R.g, 0, none⟩)) := h.blk.cell 1
theorem IsRD.c2 (h : IsRD w r R X) : w.cell? ⟨r, 2, none⟩ = some (.pointer (some ⟨R.t, 0, none⟩)) := h.blk.cell 2
theorem IsRD.c3 (h : IsRD w r R X) : w.cell? ⟨r, 3, none⟩ = some (.int .i64 (X.ops : Int)) := h.blk.cell 3
theorem IsRD.c4 (h : IsRD w r R X) : w.cell? ⟨r, 4, none⟩ = some (.bool X.down) := h.blk.cell 4
theorem rlen_b {S : Nat → Prop} {d n : Nat} {D : Nat → SlotD} (h : IsR w S d n D) (hn : 0 < n) (i : Nat) (hi : i < n) :
    Calls Tryz.prog 105 #[.pointer (some ⟨d, 0, none⟩), .int .i64 (i : Int)] w fun e w' => e = .returned (.tuple #[.int .i64 ((D i).bytes.length : Int), .int .i64 0]) ∧ Below w.heap.size w w' :=
  (rlen h hn i hi).mono fun e w' ⟨h1, h2⟩ => ⟨h1, by rw [← h2]; exact Below.refl _ _⟩
theorem rread_b {S : Nat → Prop} {d n : Nat} {D : Nat → SlotD} (h : IsR w S d n D) (hn : 0 < n) (i : Nat) (hi : i < n) (off m : Int) :
    Calls Tryz.prog 126 #[.pointer (some ⟨d, 0, none⟩), .int .i64 (i : Int), .int .i64 off, .int .i64 m] w fun e w' => ∃ u q, e = .returned (.tuple #[u, .int .i64 q]) ∧ ((badRead (D i).bytes.length off m ∧ q = 3 ∧ u = .slice none 0 0) ∨ ∃ a b : Nat, off = a ∧ m = b ∧ a + b ≤ (D i).bytes.length ∧ q = 0 ∧ w'.ownsRow w.heap.size 5 1 u b (u8s (((D i).bytes.drop a).take b))) ∧ Below w.heap.size w w' := by
  by_cases hb : badRead (D i).bytes.length off m
  · exact (rread_bad h hn i hi off m hb).mono fun e w' ⟨h1, h2⟩ => ⟨_, _, h1, .inl ⟨hb, rfl, rfl⟩, by rw [← h2]; exact Below.refl _ _⟩
  · unfold badRead at hb
    obtain ⟨a, rfl⟩ : ∃ a : Nat, off = (a : Int) := ⟨off.toNat, by omega⟩
    obtain ⟨b, rfl⟩ : ∃ b : Nat, m = (b : Int) := ⟨m.toNat, by omega⟩
    refine (rread h hn i hi a b (by omega)).mono ?_
    rintro e w' ⟨v, h1, h2, h3⟩
    exact ⟨_, _, h1, .inr ⟨a, b, rfl, rfl, by omega, rfl, h2⟩, h3⟩
set_option maxRecDepth 100000 in
set_option maxHeartbeats 400000 in
theorem rd_valid (h : IsRD w r R X) :
    Calls Tryz.prog 74 #[.pointer (some ⟨r, 0, none⟩)] w fun e w' => e = .returned (.bool true) ∧ w = w' := by
  have q2 := h.c0
  have hn := h.ok.n2
  have hn32 := h.ok.n32
  obtain ⟨n, hnn⟩ : ∃ n, X.n = n := ⟨_, rfl⟩
  rw [hnn] at q2 hn hn32
  have hd : decide (0 < n) = true := decide_eq_true (by omega)
  clear h hnn
  go_enter Tryz.func74, Tryz.ntmps74
  go_wp2_with fail
  go_ret
  exact ⟨rfl, rfl⟩
set_option maxRecDepth 100000 in
set_option maxHeartbeats 1000000 in
theorem rd_check (h : IsRD w r R X) (i : Int) :
    Calls Tryz.prog 68 #[.pointer (some ⟨r, 0, none⟩), .int .i64 i] w fun e w' => e = .returned (.int .i64 (chkE X i)) ∧ w = w' := by
  have HV := Lib.hid (rd_valid h)
  have q2 := h.c0
  have q4 := h.c4
  have hn32 := h.ok.n32
  have hc := chk_cases X i
  obtain ⟨n, hnn⟩ : ∃ n, X.n = n := ⟨_, rfl⟩
  obtain ⟨re, hr⟩ : ∃ re, chkE X i = re := ⟨_, rfl⟩
  obtain ⟨dn, hdn⟩ : ∃ dn, X.down = dn := ⟨_, rfl⟩
  rw [hnn] at q2 hn32
  rw [hdn] at q4
  rw [hnn, hr, hdn] at hc
  rw [hr]
  clear h hnn hr hdn
  rcases hc with ⟨rfl, rfl⟩ | ⟨rfl, hi, _, rfl⟩ | ⟨rfl, rfl, _, s, rfl, hs, _⟩
  · go_enter Tryz.func68, Tryz.ntmps68
    go_wp2_with fail
    refine HV.out.mono ?_
    rintro e w' ⟨rfl, rfl⟩
    go_wp2_with fail
    go_ret
    exact ⟨rfl, rfl⟩
  · by_cases h0 : i < 0
    · clear hi
      go_enter Tryz.func68, Tryz.ntmps68
      go_wp2_with fail
      refine HV.out.mono ?_
      rintro e w' ⟨rfl, rfl⟩
      go_wp2_with fail
      go_ret
      exact ⟨rfl, rfl⟩
    · have h1 : (n : Int) + 2 ≤ i := by omega
      clear hi
      go_enter Tryz.func68, Tryz.ntmps68
      go_wp2_with fail
      refine HV.out.mono ?_
      rintro e w' ⟨rfl, rfl⟩
      go_wp2_with fail
      go_ret
      exact ⟨rfl, rfl⟩
  · have h1 : (s : Int) < (n : Int) + 2 := by omega
    go_enter Tryz.func68, Tryz.ntmps68
    go_wp2_with fail
    refine HV.out.mono ?_
    rintro e w' ⟨rfl, rfl⟩
    go_wp2_with fail
    go_ret
    exact ⟨rfl, rfl⟩
set_option maxRecDepth 100000 in
set_option maxHeartbeats 1000000 in
theorem rd_len (h : IsRD w r R X) (i : Int) :
    Calls Tryz.prog 61 #[.pointer (some ⟨r, 0, none⟩), .int .i64 i] w fun e w' => e = .returned (.tuple #[.int .i64 (lenV X i), .int .i64 (chkE X i)]) ∧ Below w.heap.size w w' := by
  have HV := Lib.hid (rd_check h i)
  have q0 := h.c1
  have hc := chk_cases X i
  have HD := Lib.hid h.disk
  unfold lenV
  obtain ⟨re, hr⟩ : ∃ re, chkE X i = re := ⟨_, rfl⟩
  rw [hr] at HV hc ⊢
  clear h hr
  rcases hc with ⟨_, rfl⟩ | ⟨_, _, _, rfl⟩ | ⟨_, rfl, _, s, rfl, hs, hs2⟩
  · go_enter Tryz.func61, Tryz.ntmps61
    go_wp2_with fail
    refine HV.out.mono ?_
    rintro e w' ⟨rfl, rfl⟩
    go_wp2_with fail
    go_ret2
    exact ⟨rfl, Below.refl _ _⟩
  · go_enter Tryz.func61, Tryz.ntmps61
    go_wp2_with fail
    refine HV.out.mono ?_
    rintro e w' ⟨rfl, rfl⟩
    go_wp2_with fail
    go_ret2
    exact ⟨rfl, Below.refl _ _⟩
  · have HL := Lib.hid (rlen_b HD.out (by omega) s hs)
    rw [if_pos rfl, hs2]
    obtain ⟨y, hy⟩ : ∃ y : Int, ((X.D s).bytes.length : Int) = y := ⟨_, rfl⟩
    rw [hy] at HL ⊢
    clear hy hs2
    go_enter Tryz.func61, Tryz.ntmps61
    go_wp2_with fail
    refine HV.out.mono ?_
    rintro e w' ⟨rfl, rfl⟩
    go_wp2_with fail
    refine HL.out.mono ?_
    rintro e w' ⟨rfl, hb⟩
    have HB := Lib.hid hb
    clear hb
    go_wp2_with fail
    go_ret2
    exact ⟨rfl, HB.out⟩
set_option maxRecDepth 100000 in
set_option maxHeartbeats 1000000 in
theorem rd_read (h : IsRD w r R X) (i off m : Int) :
    Calls Tryz.prog 82 #[.pointer (some ⟨r, 0, none⟩), .int .i64 i, .int .i64 off, .int .i64 m] w fun e w' => ∃ u re, e = .returned (.tuple #[u, .int .i64 re]) ∧ VReadQ w X i off m u re w' ∧ Below w.heap.size w w' := by
  have HV := Lib.hid (rd_check h i)
  have q0 := h.c1
  have hc := chk_cases X i
  have HD := Lib.hid h.disk
  unfold VReadQ
  obtain ⟨re, hr⟩ : ∃ re, chkE X i = re := ⟨_, rfl⟩
  rw [hr] at HV hc ⊢
  clear h hr
  rcases hc with ⟨_, rfl⟩ | ⟨_, _, _, rfl⟩ | ⟨_, rfl, _, s, rfl, hs, hs2⟩
  · go_enter Tryz.func82, Tryz.ntmps82
    go_wp2_with fail
    refine HV.out.mono ?_
    rintro e w' ⟨rfl, rfl⟩
    go_wp2_with fail
    go_ret2
    exact ⟨_, _, rfl, .inl ⟨by omega, rfl, rfl⟩, Below.refl _ _⟩
  · go_enter Tryz.func82, Tryz.ntmps82
    go_wp2_with fail
    refine HV.out.mono ?_
    rintro e w' ⟨rfl, rfl⟩
    go_wp2_with fail
    go_ret2
    exact ⟨_, _, rfl, .inl ⟨by omega, rfl, rfl⟩, Below.refl _ _⟩
  · have HL := Lib.hid (rread_b HD.out (by omega) s hs off m)
    go_enter Tryz.func82, Tryz.ntmps82
    go_wp2_with fail
    refine HV.out.mono ?_
    rintro e w' ⟨rfl, rfl⟩
    go_wp2_with fail
    refine HL.out.mono ?_
    rintro e w' ⟨u, re, rfl, hq, hb⟩
    have HB := Lib.hid hb
    have HQ := Lib.hid hq
    clear hb hq
    go_wp2_with fail
    go_ret2
    refine ⟨_, _, rfl, .inr ⟨by trivial, s, rfl, hs, ?_⟩, HB.out⟩
    exact HQ.out
set_option maxRecDepth 100000 in
set_option maxHeartbeats 400000 in
theorem rd_down (h : IsRD w r R X) :
    Calls Tryz.prog 60 #[.pointer (some ⟨r, 0, none⟩)] w fun e w' => e = .returned (.bool X.down) ∧ w = w' := by
  have HV := Lib.hid (rd_valid h)
  have q := h.c4
  clear h
  go_enter Tryz.func60, Tryz.ntmps60
  go_wp2_with fail
  refine HV.out.mono ?_
  rintro e w' ⟨rfl, rfl⟩
  go_wp2_with fail
  go_ret
  exact ⟨rfl, rfl⟩
set_option maxRecDepth 100000 in
set_option maxHeartbeats 400000 in
theorem rd_ops (h : IsRD w r R X) :
    Calls Tryz.prog 80 #[.pointer (some ⟨r, 0, none⟩)] w fun e w' => e = .returned (.int .i64 (X.ops : Int)) ∧ w = w' := by
  have HV := Lib.hid (rd_valid h)
  have q := h.c3
  clear h
  go_enter Tryz.func80, Tryz.ntmps80
  go_wp2_with fail
  refine HV.out.mono ?_
  rintro e w' ⟨rfl, rfl⟩
  go_wp2_with fail
  go_ret
  exact ⟨rfl, rfl⟩
set_option maxRecDepth 100000 in
set_option maxHeartbeats 400000 in
theorem rd_slots (h : IsRD w r R X) :
    Calls Tryz.prog 58 #[.pointer (some ⟨r, 0, none⟩)] w fun e w' => e = .returned (.int .i64 (X.n : Int)) ∧ w = w' := by
  have HV := Lib.hid (rd_valid h)
  have q := h.c0
  clear h
  go_enter Tryz.func58, Tryz.ntmps58
  go_wp2_with fail
  refine HV.out.mono ?_
  rintro e w' ⟨rfl, rfl⟩
  go_wp2_with fail
  go_ret
  exact ⟨rfl, rfl⟩
end
end Go.Proofs.YtnopljanpjmbgaaGreat
namespace Go.Proofs.YtnopljanpjmbgaaGreat
open Go.RowKit Go.Shelf
set_option linter.unusedVariables false
section
variable {B : Nat} {w w' w0 : World} {os : List Ob} {r : Nat} {R : RLay} {X : DevD}
theorem Sep.rtick (h : Sep B w0 w (rv3 r R X os)) :
    Calls Tryz.prog 117 #[.pointer (some ⟨R.t, 0, none⟩)] w fun e w' => e = .returned (.bool (tickB X.T)) ∧ Sep B w0 w' (rv3 r R { X with T := tickP X.T } os) := by
  have ht : IsRT w R.t R.kb X.T := h.get (.tail _ (.tail _ (.head _)))
  refine (rt_tick ht).mono ?_
  rintro e w' ⟨h1, h2, h3⟩
  exact ⟨h1, h.step2 (a := rtOb R.t R.kb X.T) (a' := rtOb R.t R.kb (tickP X.T)) (h3.mono (fun k _ hk => .inl hk)) h2 (fun k hk => .inl hk)⟩
theorem Sep.setPlan {g : Nat} {cs : Array Value} {a b c : Value} {x y z : Value} (h : Sep B w0 w (blkOb g 64 #[x, y, z] :: os)) : Sep B w0 (((w.setCell ⟨g, 0, none⟩ a).setCell ⟨g, 1, none⟩ b).setCell ⟨g, 2, none⟩ c) (blkOb g 64 #[a, b, c] :: os) :=
  ((h.setBlk 0 a).setBlk 1 b).setBlk 2 c
/-- What counted gives. -/
def RCountQ (B : Nat) (w0 : World) (os : List Ob) (r : Nat) (R : RLay) (X : DevD) (e : Ending) (w' : World) : Prop :=
  ∃ at_ dn A m c keep, e = .returned (.tuple #[planV at_ dn A m c, .bool (tickB X.T)]) ∧ (tickB X.T = true → dn = dnOf X.T ∧ keep = keepOf X.T ∧ okPlan at_ keep) ∧ keep.length = m ∧ Sep B w0 w' (rowOb 3 1 (.slice A m c) m (ints keep) :: rv3 r R (midX X) os)
set_option maxRecDepth 100000 in
set_option maxHeartbeats 4000000 in
theorem rd_counted (h : Sep B w0 w (rv3 r R X os)) (hX : X.Ok) (hops : X.ops < 4611686018427387904) :
    Calls Tryz.prog 70 #[.pointer (some ⟨r, 0, none⟩)] w (RCountQ B w0 os r R X) := by
  obtain ⟨W1, hW1⟩ : ∃ W1, W1 = w.alloc (.cells #[.int .i64 0, .bool false, .slice none 0 0] 64) := ⟨_, rfl⟩
  obtain ⟨p2, hp2⟩ : ∃ p2, p2 = w.heap.size := ⟨_, rfl⟩
  have hs1 : Sep B w0 W1 (blkOb r 105 (rdCells R X) :: blkOb p2 64 #[.int .i64 0, .bool false, .slice none 0 0] :: refsOb R.S (X.n + 2) ((R.g, X.D) :: R.l) :: rtOb R.t R.kb X.T :: os) := by
    rw [hW1]
    exact (h.newBlk p2 _ _ hp2).perm (.swap _ _ _)
  obtain ⟨n, hn⟩ : ∃ n, X.ops = n := ⟨_, rfl⟩
  have hv1 : Blk W1 r 105 (rdCells R X) := hs1.get (.head _)
  have q3 : W1.cell? ⟨r, 3, none⟩ = some (.int .i64 (n : Int)) := by rw [← hn]; exact hv1.cell 3
  have f3 := hv1.frozen 3
  obtain ⟨W2, hW2⟩ : ∃ W2, W2 = W1.setCell ⟨r, 3, none⟩ (.int .i64 ((n : Int) + 1)) := ⟨_, rfl⟩
  have hs2 : Sep B w0 W2 (blkOb p2 64 #[.int .i64 0, .bool false, .slice none 0 0] :: rv3 r R { X with ops := X.ops + 1 } os) := by
    rw [hW2]
    have := hs1.setBlk 3 (.int .i64 ((n : Int) + 1))
    rw [← hn] at this ⊢
    exact this.perm (.swap _ _ _)
  have hv2 : Blk W2 r 105 (rdCells R { X with ops := X.ops + 1 }) := hs2.get (.tail _ (.head _))
  have q2 : W2.cell? ⟨r, 2, none⟩ = some (.pointer (some ⟨R.t, 0, none⟩)) := hv2.cell 2
  have ht : IsRT W2 R.t R.kb X.T := hs2.get (.tail _ (.tail _ (.tail _ (.head _))))
  have HPL := Lib.hid (rt_plan ht)
  have HS2 := Lib.hid hs2
  have HX := Lib.hid hX
  have HW1 := Lib.hid hW1
  have HW2 := Lib.hid hW2
  have HP2 := Lib.hid hp2
  rw [hn] at hops
  have HPLAN : Hid (∀ e w', RPlanQ W2 X.T e w' → ∃ at_ dn A m c keep bb, e = .returned (.tuple #[planV at_ dn A m c, .bool bb]) ∧ Hid (tickB X.T = true → dn = dnOf X.T ∧ keep = keepOf X.T ∧ okPlan at_ keep) ∧ Hid (keep.length = m) ∧ Hid (Sep B w0 w' (rowOb 3 1 (.slice A m c) m (ints keep) :: blkOb p2 64 #[.int .i64 0, .bool false, .slice none 0 0] :: rv3 r R { X with ops := X.ops + 1 } os))) := by
    rintro e w' (⟨hT, rfl, hb⟩ | ⟨p, A, c, hT, rfl, ho, hb⟩)
    · refine ⟨0, false, none, 0, 0, [], false, rfl, (show tickB X.T = true → _ from fun hh => by rw [hT] at hh; cases hh), rfl, HS2.out.add (a := rowOb 3 1 (.slice none 0 0) 0 []) hb (World.ownsRow_nil _ _ _ _) (fun k hk => by cases hk)⟩
    · refine ⟨p.at_, p.dn, A, p.keep.length, c, p.keep, _, rfl, fun _ => ?_, rfl, HS2.out.add (a := rowOb 3 1 (.slice A p.keep.length c) p.keep.length (ints p.keep)) hb (own_base ho (fun _ _ => Nat.zero_le _)) (fun k hk => (ho.lt k hk).1)⟩
      rw [hT]
      exact ⟨rfl, rfl, (HX.out.tm p hT).1⟩
  rw [hW2, hW1] at q2
  rw [hW1] at q3 f3
  rw [hp2] at HS2
  clear h hX hs1 hn hv1 hs2 hv2 ht hW1 hW2 hp2
  go_enter Tryz.func70, Tryz.ntmps70
  go_wp2_with fail
  rw [← HW1.out, ← HW2.out, ← HP2.out]
  refine HPL.out.mono ?_
  intro e w3 hpl
  obtain ⟨at_, dn, A, m, c, keep, bb, rfl, HT, HM, HS3⟩ := HPLAN.out e w3 hpl
  clear hpl q2 q3 f3 HPL HPLAN
  obtain ⟨p4, hp4⟩ : ∃ p4, p4 = w3.heap.size := ⟨_, rfl⟩
  obtain ⟨W4, hW4⟩ : ∃ W4, W4 = w3.alloc (.cells #[.int .i64 at_, .bool dn, .slice A m c] 64) := ⟨_, rfl⟩
  have hs4 : Sep B w0 W4 (blkOb p4 64 #[.int .i64 at_, .bool dn, .slice A m c] :: rowOb 3 1 (.slice A m c) m (ints keep) :: blkOb p2 64 #[.int .i64 0, .bool false, .slice none 0 0] :: rv3 r R { X with ops := X.ops + 1 } os) := by
    rw [hW4]
    exact HS3.out.newBlk p4 _ _ hp4
  have hbk : Blk (w3.alloc (.cells #[.int .i64 0, .bool false, .slice none 0 0] 64)) w3.heap.size 64 #[.int .i64 0, .bool false, .slice none 0 0] := Blk.new _ _ _
  have e0 : (w3.alloc (.cells #[.int .i64 0, .bool false, .slice none 0 0] 64)).cell? ⟨w3.heap.size, 0, none⟩ = some (.int .i64 0) := hbk.cell 0
  have e1 : (w3.alloc (.cells #[.int .i64 0, .bool false, .slice none 0 0] 64)).cell? ⟨w3.heap.size, 1, none⟩ = some (.bool false) := hbk.cell 1
  have e2 : (w3.alloc (.cells #[.int .i64 0, .bool false, .slice none 0 0] 64)).cell? ⟨w3.heap.size, 2, none⟩ = some (.slice none 0 0) := hbk.cell 2
  have k4 : Blk W4 p4 64 #[.int .i64 at_, .bool dn, .slice A m c] := hs4.get (.head _)
  have v4 : Blk W4 r 105 (rdCells R { X with ops := X.ops + 1 }) := hs4.get (.tail _ (.tail _ (.tail _ (.head _))))
  have g0 : W4.cell? ⟨p4, 0, none⟩ = some (.int .i64 at_) := k4.cell 0
  have g1 : W4.cell? ⟨p4, 1, none⟩ = some (.bool dn) := k4.cell 1
  have g2 : W4.cell? ⟨p4, 2, none⟩ = some (.slice A m c) := k4.cell 2
  have g3 : W4.cell? ⟨r, 2, none⟩ = some (.pointer (some ⟨R.t, 0, none⟩)) := v4.cell 2
  have HS4 := Lib.hid hs4
  have HW4 := Lib.hid hW4
  have HP4 := Lib.hid hp4
  clear hbk k4 v4 hs4 hW4 hp4
  unfold planV
  go_wp2_with fail
  rw [← HP4.out, ← HW4.out]
  clear e0 e1 e2
  have HTK : Hid (Calls Tryz.prog 117 #[.pointer (some ⟨R.t, 0, none⟩)] W4.drew fun e w' => e = .returned (.bool (tickB X.T)) ∧ Hid (Sep B w0 w' (rv3 r R (midX X) (blkOb p4 64 #[.int .i64 at_, .bool dn, .slice A m c] :: rowOb 3 1 (.slice A m c) m (ints keep) :: blkOb p2 64 #[.int .i64 0, .bool false, .slice none 0 0] :: os)))) := by
    have h5 : Sep B w0 W4.drew (rv3 r R { X with ops := X.ops + 1 } (blkOb p4 64 #[.int .i64 at_, .bool dn, .slice A m c] :: rowOb 3 1 (.slice A m c) m (ints keep) :: blkOb p2 64 #[.int .i64 0, .bool false, .slice none 0 0] :: os)) := HS4.out.drew.perm ((List.perm_append_comm (l₁ := [_, _, _]) (l₂ := [_, _, _])).append_right os)
    exact (Sep.rtick h5).mono fun e w' ⟨h1, h2⟩ => ⟨h1, h2⟩
  have hne1 : p4 ≠ p2 := by
    have h6 : Blk w3 p2 64 #[.int .i64 0, .bool false, .slice none 0 0] := HS3.out.get (.tail _ (.head _))
    have := h6.lt
    have := HP4.out
    omega
  have hne2 : p2 ≠ p4 := fun e => hne1 e.symm
  have hne3 : p2 ≠ r := (List.pairwise_cons.1 HS2.out.apart).1 (blkOb r 105 (rdCells R { X with ops := X.ops + 1 })) (.head _) p2 HP2.out
  have hne4 : r ≠ p2 := fun e => hne3 e.symm
  go_region_held3 (fun Y => Y.cell? ⟨p4, 0, none⟩ = some (.int .i64 at_) ∧ Y.cell? ⟨p4, 1, none⟩ = some (.bool dn) ∧ Y.cell? ⟨p4, 2, none⟩ = some (.slice A m c) ∧ Y.cell? ⟨r, 2, none⟩ = some (.pointer (some ⟨R.t, 0, none⟩))) (first | (refine ⟨?_, ?_, ?_, ?_⟩ <;> assumption) | go_keep)
    (first
      | (go_at_call 117; refine HTK.out.mono ?_; rintro e w6 ⟨rfl, hs6⟩
         have h6p : Blk w6 p4 64 #[.int .i64 at_, .bool dn, .slice A m c] := hs6.out.get (.tail _ (.tail _ (.tail _ (.head _))))
         have h6q : Blk w6 p2 64 #[.int .i64 0, .bool false, .slice none 0 0] := hs6.out.get (.tail _ (.tail _ (.tail _ (.tail _ (.tail _ (.head _))))))
         have h6r : Blk w6 r 105 (rdCells R (midX X)) := hs6.out.get (.head _)
         have k0 : w6.cell? ⟨p4, 0, none⟩ = some (.int .i64 at_) := h6p.cell 0
         have k1 : w6.cell? ⟨p4, 1, none⟩ = some (.bool dn) := h6p.cell 1
         have k2 : w6.cell? ⟨p4, 2, none⟩ = some (.slice A m c) := h6p.cell 2
         have k3 : w6.cell? ⟨r, 2, none⟩ = some (.pointer (some ⟨R.t, 0, none⟩)) := h6r.cell 2
         have y0 : w6.cell? ⟨p2, 0, none⟩ = some (.int .i64 0) := h6q.cell 0
         have y1 : w6.cell? ⟨p2, 1, none⟩ = some (.bool false) := h6q.cell 1
         have y2 : w6.cell? ⟨p2, 2, none⟩ = some (.slice none 0 0) := h6q.cell 2
         have z0 := h6q.frozen 0
         have z1 := h6q.frozen 1
         have z2 := h6q.frozen 2
         clear h6p h6q h6r))
  obtain ⟨W7, hW7⟩ : ∃ W7, W7 = ((w6.setCell ⟨p2, 0, none⟩ (.int .i64 at_)).setCell ⟨p2, 1, none⟩ (.bool dn)).setCell ⟨p2, 2, none⟩ (.slice A m c) := ⟨_, rfl⟩
  have hs7 : Sep B w0 W7 (blkOb p2 64 #[.int .i64 at_, .bool dn, .slice A m c] :: rowOb 3 1 (.slice A m c) m (ints keep) :: rv3 r R (midX X) os) := by
    rw [hW7]
    have h8 : Sep B w0 w6 (blkOb p4 64 #[.int .i64 at_, .bool dn, .slice A m c] :: rowOb 3 1 (.slice A m c) m (ints keep) :: blkOb p2 64 #[.int .i64 0, .bool false, .slice none 0 0] :: rv3 r R (midX X) os) := hs6.out.perm ((List.perm_append_comm (l₁ := [_, _, _]) (l₂ := [_, _, _])).append_right os)
    exact ((h8.sub (.cons _ (List.Sublist.refl _))).perm (.swap _ _ _)).setPlan (cs := #[])
  have HS7 := Lib.hid hs7
  have HW7 := Lib.hid hW7
  clear hs7 hW7 HTK
  go_wp2_with fail
  rw [← HW7.out]
  have k7 : Blk W7 p2 64 #[.int .i64 at_, .bool dn, .slice A m c] := HS7.out.get (.head _)
  have e0 : W7.cell? ⟨p2, 0, none⟩ = some (.int .i64 at_) := k7.cell 0
  have e1 : W7.cell? ⟨p2, 1, none⟩ = some (.bool dn) := k7.cell 1
  have e2 : W7.cell? ⟨p2, 2, none⟩ = some (.slice A m c) := k7.cell 2
  refine bodyPost_ret (v := .tuple #[.agg #[.int .i64 at_, .bool dn, .slice A m c], .bool (tickB X.T)]) (by simp [results, Tryz.f70, go_sem, e0, e1, e2]) rfl ?_
  exact ⟨at_, dn, A, m, c, keep, rfl, HT.out, HM.out, HS7.out.sub (.cons _ (List.Sublist.refl _))⟩
set_option maxRecDepth 100000 in
set_option maxHeartbeats 2000000 in
theorem rd_crash (h : Sep B w0 w (rv3 r R X os)) (hn : X.n ≤ 32) (at_ : Int) (dn : Bool) (A : Option Addr) (m c : Nat) (zs : List Int) (hr : ∀ W, Kept B w0 os W → Reads W W.heap.size 1 A m (ints zs)) (h1 : 1 ≤ m) (h2 : m ≤ 34) (hk : ∀ z ∈ zs, 0 ≤ z ∧ z ≤ 8192) :
    Calls Tryz.prog 71 #[.pointer (some ⟨r, 0, none⟩), planV at_ dn A m c] w fun e w' => e = .returned (.int .i64 13) ∧ ∃ R', Sep B w0 w' (rv3 r R' { X with D := crashD zs X.D, down := true } os) := by
  obtain ⟨W1, hW1⟩ : ∃ W1, W1 = w.alloc (.cells #[.int .i64 at_, .bool dn, .slice A m c] 64) := ⟨_, rfl⟩
  have hs1 : Sep B w0 W1 (blkOb w.heap.size 64 #[.int .i64 at_, .bool dn, .slice A m c] :: rv3 r R X os) := by rw [hW1]; exact h.newBlk _ _ _ rfl
  have hb1 := hs1.blk0
  have hv : Blk W1 r 105 (rdCells R X) := hs1.get (.tail _ (.head _))
  have q0 : W1.cell? ⟨r, 1, none⟩ = some (.pointer (some ⟨R.g, 0, none⟩)) := hv.cell 1
  have q2 : W1.cell? ⟨w.heap.size, 2, none⟩ = some (.slice A m c) := hb1.cell 2
  have HS1 := Lib.hid hs1
  have HR := Lib.hid hr
  have HK := Lib.hid hk
  have HW1 := Lib.hid hW1
  clear hs1 hb1 hv hr hk h hW1
  unfold planV
  go_enter Tryz.func71, Tryz.ntmps71
  go_wp2_with fail
  rw [← HW1.out]
  go_still_tail 6, (by kernel_rfl)
  change wpList _ _ _ _ _ W1.drew
  obtain ⟨W2, hW2⟩ : ∃ W2, W2 = W1.drew := ⟨_, rfl⟩
  have hs2 : Sep B w0 W2 (rv3 r R X os) := by
    rw [hW2]
    exact (HS1.out.drew).sub (.cons _ (List.Sublist.refl _))
  have hg := hs2.ref1nd
  have HCR : Hid (Calls Tryz.prog 118 #[.pointer (some ⟨R.g, 0, none⟩), .slice A m c] W2 fun e w' => e = .returned (.int .i64 (crashEI zs)) ∧ ∃ S', Sep B w0 w' (blkOb r 105 (rdCells R X) :: refsOb S' (X.n + 2) ((R.g, crashDI zs X.D) :: R.l) :: rtOb R.t R.kb X.T :: os)) := by
    refine rsepI_crash hs2 (by omega) (by omega) A m c zs (by unfold maxLen; omega) (fun W hW => HR.out W ⟨hs2.bel.trans (hW.below hs2.big (fun k hk => by have e : k = R.g := hk; omega)), fun o ho => ?_⟩) (fun z hz => by have := HK.out z hz; omega)
    refine o.keep hW (fun k hk e => ?_) (hs2.get (.tail _ (.tail _ (.tail _ ho))))
    have e : k = R.g := e
    subst e
    have h5 := (List.pairwise_cons.1 hs2.apart).2
    exact (List.pairwise_cons.1 h5).1 o (.tail _ ho) R.g (.inr ⟨_, .head _, rfl⟩) hk
  have hlen : zs.length = m := by have := (HR.out W2 ⟨hs2.bel, fun o ho => hs2.get (.tail _ (.tail _ (.tail _ ho)))⟩).1; rw [ints_length] at this; omega
  have HOK : Hid (okKeep zs) := ⟨by omega, by omega, fun z hz => (HK.out z hz).1⟩
  rw [← hW2]
  clear hW2 q0 q2 hs2 hg hlen
  go_wp2_with fail
  refine HCR.out.mono ?_
  rintro e w3 ⟨rfl, S', hs⟩
  have hv : Blk w3 r 105 (rdCells R X) := hs.get (.head _)
  have f4 := hv.frozen 4
  have q4 : w3.cell? ⟨r, 4, none⟩ = some (.bool X.down) := hv.cell 4
  have HS3 := Lib.hid hs
  clear hs hv HCR
  go_wp2_with fail
  go_ret
  refine ⟨rfl, { R with S := S' }, ?_⟩
  have := HS3.out.setBlk 4 (.bool true)
  rw [show crashDI zs X.D = crashD zs X.D from by unfold crashDI; rw [if_pos HOK.out]] at this
  exact this
end
end Go.Proofs.YtnopljanpjmbgaaGreat
namespace Go.Proofs.YtnopljanpjmbgaaGreat
open Go.RowKit Go.Shelf
set_option linter.unusedVariables false
section
variable {B : Nat} {w w' w0 : World} {os : List Ob} {r : Nat} {R : RLay} {X : DevD}
theorem rd_crash2 {pb : Nat} {at_ : Int} {dn : Bool} {A : Option Addr} {m c : Nat} {keep : List Int} (h : Sep B w0 w (blkOb pb 64 #[.int .i64 at_, .bool dn, .slice A m c] :: rowOb 3 1 (.slice A m c) m (ints keep) :: rv3 r R X os)) (hn : X.n ≤ 32) (hlen : keep.length = m) (hok : okPlan at_ keep) :
    Calls Tryz.prog 71 #[.pointer (some ⟨r, 0, none⟩), .agg #[.int .i64 at_, .bool dn, .slice A m c]] w fun e w' => e = .returned (.int .i64 13) ∧ ∃ R', Sep B w0 w' (rv3 r R' { X with D := crashD keep X.D, down := true } os) := by
  have h2 : Sep B w0 w (rv3 r R X (blkOb pb 64 #[.int .i64 at_, .bool dn, .slice A m c] :: rowOb 3 1 (.slice A m c) m (ints keep) :: os)) := h.perm ((List.perm_append_comm (l₁ := [_, _]) (l₂ := [_, _, _])).append_right os)
  refine (rd_crash h2 hn at_ dn A m c keep (fun W hW => Reads.of_own (hW.2 (rowOb 3 1 (.slice A m c) m (ints keep)) (.tail _ (.head _)))) (by have := hok.2.1.1; omega) (by have := hok.2.1.2; omega) hok.2.2).mono ?_
  rintro e w' ⟨h3, R', h4⟩
  exact ⟨h3, R', h4.sub (.cons_cons _ (.cons_cons _ (.cons_cons _ (.cons _ (.cons _ (List.Sublist.refl _))))))⟩
theorem rd_box {e : Ending} (h : RCountQ B w0 os r R X e w) : ∃ at_ dn A m c keep, e = .returned (.tuple #[.agg #[.int .i64 at_, .bool dn, .slice A m c], .bool (tickB X.T)]) ∧ Hid (tickB X.T = true → dn = dnOf X.T ∧ keep = keepOf X.T ∧ okPlan at_ keep) ∧ Hid (keep.length = m) ∧ Hid (Sep B w0 (w.alloc (.cells #[.int .i64 at_, .bool dn, .slice A m c] 64)) (blkOb w.heap.size 64 #[.int .i64 at_, .bool dn, .slice A m c] :: rowOb 3 1 (.slice A m c) m (ints keep) :: rv3 r R (midX X) os)) := by
  obtain ⟨at_, dn, A, m, c, keep, h1, h2, h3, h4⟩ := h
  exact ⟨at_, dn, A, m, c, keep, h1, h2, h3, h4.newBlk _ _ _ rfl⟩
theorem zplan_cells (w : World) (a b c : Value) : (w.alloc (.cells #[a, b, c] 64)).cell? ⟨w.heap.size, 0, none⟩ = some a ∧ (w.alloc (.cells #[a, b, c] 64)).cell? ⟨w.heap.size, 1, none⟩ = some b ∧ (w.alloc (.cells #[a, b, c] 64)).cell? ⟨w.heap.size, 2, none⟩ = some c := by
  have hb : Blk (w.alloc (.cells #[a, b, c] 64)) w.heap.size 64 #[a, b, c] := Blk.new _ _ _
  exact ⟨hb.cell 0, hb.cell 1, hb.cell 2⟩
theorem opX_mid (f : (Nat → SlotD) → (Nat → SlotD)) (g : Bool → Bool) {keep : List Int} {dn : Bool} (h : tickB X.T = true) (hk : keep = keepOf X.T) (hd : dn = dnOf X.T) : opX X f g = { midX X with D := crashD keep (if g dn = true then f X.D else X.D), down := true } := by
  rw [opX_yes h, hk, hd]
set_option maxRecDepth 100000 in
set_option maxHeartbeats 2000000 in
theorem rd_append (h : Sep B w0 w (rv3 r R X os)) (hX : X.Ok) (hops : X.ops < 4611686018427387904) (i : Int) {A : Option Addr} {m c : Nat} {b : List (BitVec 8)} (hv : Holds w (.slice A m c) b) (hb64 : b.length ≤ 1000000) :
    Calls Tryz.prog 23 #[.pointer (some ⟨r, 0, none⟩), .int .i64 i, .slice A m c] w fun e w' => e = .returned (.int .i64 (appVE X i b)) ∧ ∃ R', Sep B w0 w' (rv3 r R' (appVX X i b) os) := by
  have hrd := h.rd hX
  have HCK := Lib.hid (rd_check hrd i)
  have hc := chk_cases X i
  have hn32 := hX.n32
  have q1 := hrd.c1
  have H := Lib.hid h
  have HX := Lib.hid hX
  have HV := Lib.hid hv
  unfold appVE appVX
  clear hv
  obtain ⟨re, hr⟩ : ∃ re, chkE X i = re := ⟨_, rfl⟩
  rw [hr] at HCK hc ⊢
  clear h hX hrd hr
  rcases hc with ⟨_, rfl⟩ | ⟨_, _, _, rfl⟩ | ⟨_, rfl, hin, s, rfl, hs, hs2⟩
  · go_enter Tryz.func23, Tryz.ntmps23
    go_wp2_with fail
    refine HCK.out.mono ?_
    rintro e w' ⟨rfl, rfl⟩
    go_wp2_with fail
    go_ret
    exact ⟨rfl, R, H.out⟩
  · go_enter Tryz.func23, Tryz.ntmps23
    go_wp2_with fail
    refine HCK.out.mono ?_
    rintro e w' ⟨rfl, rfl⟩
    go_wp2_with fail
    go_ret
    exact ⟨rfl, R, H.out⟩
  · rw [if_pos rfl, if_pos rfl, hs2]
    by_cases hfit : (X.D s).bytes.length + b.length ≤ (X.D s).size
    · have HAP : Hid (Calls Tryz.prog 69 #[.pointer (some ⟨R.g, 0, none⟩), .int .i64 (s : Int), .slice A m c] w fun e w' => e = .returned (.int .i64 0) ∧ ∃ S', Hid (Sep B w0 w' (rv3 r { R with S := S' } { X with D := appD X.D s b } os))) := by
        refine (rsepI_append H.out (by omega) (by omega) (s : Int) HV.out hb64).mono ?_
        rintro e w' ⟨h1, S', h2⟩
        have e1 : appEI (X.n + 2) X.D (s : Int) b = 0 := by unfold appEI appE; rw [if_pos hin, hs2, if_pos hfit]
        have e2 : appDI (X.n + 2) X.D (s : Int) b = appD X.D s b := by unfold appDI; rw [if_pos hin, hs2]
        rw [e1] at h1
        rw [e2] at h2
        exact ⟨h1, S', h2⟩
      rw [if_pos hfit, if_pos hfit]
      clear hfit hs2 hin
      go_enter Tryz.func23, Tryz.ntmps23
      go_wp2_with fail
      refine HCK.out.mono ?_
      rintro e w' ⟨rfl, rfl⟩
      go_wp2_with fail
      refine HAP.out.mono ?_
      rintro e w3 ⟨rfl, S', HS3⟩
      have HCO := Lib.hid (rd_counted (X := { X with D := appD X.D s b }) HS3.out ⟨HX.out.n2, HX.out.n32, HX.out.tm⟩ hops)
      clear q1 HAP HCK
      go_wp2_with fail
      refine HCO.out.mono ?_
      intro e w4 hco
      obtain ⟨at_, dn, A5, m5, c5, keep, rfl, HT, HM, HS5⟩ := rd_box hco
      obtain ⟨e0, e1, e2⟩ := zplan_cells w4 (.int .i64 0) (.bool false) (.slice none 0 0)
      obtain ⟨g0, g1, g2⟩ := zplan_cells w4 (.int .i64 at_) (.bool dn) (.slice A5 m5 c5)
      clear hco HCO
      obtain ⟨tb, htb⟩ : ∃ tb, tickB X.T = tb := ⟨_, rfl⟩
      have HTB := Lib.hid htb
      rw [show tickB ({ X with D := appD X.D s b } : DevD).T = tb from htb]
      clear htb
      cases tb with
      | false =>
        go_wp2_with fail
        go_ret
        refine ⟨by unfold opE; rw [HTB.out]; rfl, { R with S := S' }, ?_⟩
        rw [opX_no HTB.out]
        exact HS5.out.sub (.cons _ (.cons _ (List.Sublist.refl _)))
      | true =>
        have HCR := Lib.hid (rd_crash2 HS5.out HX.out.n32 HM.out (HT.out HTB.out).2.2)
        go_wp2_with fail
        refine HCR.out.mono ?_
        rintro e w6 ⟨rfl, R', HS6⟩
        have HS7 := Lib.hid HS6
        clear HS6 HCR
        go_wp2_with fail
        go_ret
        refine ⟨by unfold opE; rw [HTB.out]; rfl, R', ?_⟩
        rw [opX_mid _ _ HTB.out (HT.out HTB.out).2.1 (HT.out HTB.out).1]
        exact HS7.out
    · have HAP : Hid (Calls Tryz.prog 69 #[.pointer (some ⟨R.g, 0, none⟩), .int .i64 (s : Int), .slice A m c] w fun e w' => e = .returned (.int .i64 4) ∧ ∃ S', Hid (Sep B w0 w' (rv3 r { R with S := S' } X os))) := by
        refine (rsepI_append H.out (by omega) (by omega) (s : Int) HV.out hb64).mono ?_
        rintro e w' ⟨h1, S', h2⟩
        have e1 : appEI (X.n + 2) X.D (s : Int) b = 4 := by unfold appEI appE; rw [if_pos hin, hs2, if_neg hfit]
        have e2 : appDI (X.n + 2) X.D (s : Int) b = X.D := by unfold appDI appD; rw [if_pos hin, hs2, if_neg hfit]
        rw [e1] at h1
        rw [e2] at h2
        exact ⟨h1, S', h2⟩
      rw [if_neg hfit, if_neg hfit]
      clear hfit hs2 hin
      go_enter Tryz.func23, Tryz.ntmps23
      go_wp2_with fail
      refine HCK.out.mono ?_
      rintro e w' ⟨rfl, rfl⟩
      go_wp2_with fail
      refine HAP.out.mono ?_
      rintro e w3 ⟨rfl, S', HS3⟩
      clear q1 HAP HCK
      go_wp2_with fail
      go_ret
      exact ⟨rfl, { R with S := S' }, HS3.out⟩
set_option maxRecDepth 100000 in
set_option maxHeartbeats 2000000 in
theorem rd_sync (h : Sep B w0 w (rv3 r R X os)) (hX : X.Ok) (hops : X.ops < 4611686018427387904) (i : Int) :
    Calls Tryz.prog 67 #[.pointer (some ⟨r, 0, none⟩), .int .i64 i] w fun e w' => e = .returned (.int .i64 (oneVE X i)) ∧ ∃ R', Sep B w0 w' (rv3 r R' (SyncVX X i) os) := by
  have hrd := h.rd hX
  have HCK := Lib.hid (rd_check hrd i)
  have hc := chk_cases X i
  have hn32 := hX.n32
  have q1 := hrd.c1
  have H := Lib.hid h
  have HX := Lib.hid hX
  unfold oneVE SyncVX
  obtain ⟨re, hr⟩ : ∃ re, chkE X i = re := ⟨_, rfl⟩
  rw [hr] at HCK hc ⊢
  clear h hX hrd hr
  rcases hc with ⟨_, rfl⟩ | ⟨_, _, _, rfl⟩ | ⟨_, rfl, hin, s, rfl, hs, hs2⟩
  · go_enter Tryz.func67, Tryz.ntmps67
    go_wp2_with fail
    refine HCK.out.mono ?_
    rintro e w' ⟨rfl, rfl⟩
    go_wp2_with fail
    go_ret
    exact ⟨rfl, R, H.out⟩
  · go_enter Tryz.func67, Tryz.ntmps67
    go_wp2_with fail
    refine HCK.out.mono ?_
    rintro e w' ⟨rfl, rfl⟩
    go_wp2_with fail
    go_ret
    exact ⟨rfl, R, H.out⟩
  · rw [if_pos rfl, if_pos rfl, hs2]
    have HCO := Lib.hid (rd_counted H.out HX.out hops)
    clear q1
    go_enter Tryz.func67, Tryz.ntmps67
    go_wp2_with fail
    refine HCK.out.mono ?_
    rintro e w' ⟨rfl, rfl⟩
    clear HCK
    go_wp2_with fail
    refine HCO.out.mono ?_
    intro e w4 hco
    obtain ⟨at_, dn, A5, m5, c5, keep, rfl, HT, HM, HS5⟩ := rd_box hco
    obtain ⟨e0, e1, e2⟩ := zplan_cells w4 (.int .i64 0) (.bool false) (.slice none 0 0)
    obtain ⟨g0, g1, g2⟩ := zplan_cells w4 (.int .i64 at_) (.bool dn) (.slice A5 m5 c5)
    clear hco HCO
    obtain ⟨tb, htb⟩ : ∃ tb, tickB X.T = tb := ⟨_, rfl⟩
    have HTB := Lib.hid htb
    rw [htb]
    clear htb
    cases tb with
    | false =>
      have HDO : Hid (Calls Tryz.prog 113 #[.pointer (some ⟨R.g, 0, none⟩), .int .i64 (s : Int)] (w4.alloc (.cells #[.int .i64 at_, .bool dn, .slice A5 m5 c5] 64)) fun e w' => e = .returned (.int .i64 0) ∧ ∃ S', Hid (Sep B w0 w' (blkOb w4.heap.size 64 #[.int .i64 at_, .bool dn, .slice A5 m5 c5] :: rowOb 3 1 (.slice A5 m5 c5) m5 (ints keep) :: rv3 r { R with S := S' } { midX X with D := syncD X.D s } os))) := by
        have h6 : Sep B w0 (w4.alloc (.cells #[.int .i64 at_, .bool dn, .slice A5 m5 c5] 64)) (rv3 r R (midX X) (blkOb w4.heap.size 64 #[.int .i64 at_, .bool dn, .slice A5 m5 c5] :: rowOb 3 1 (.slice A5 m5 c5) m5 (ints keep) :: os)) := HS5.out.perm ((List.perm_append_comm (l₁ := [_, _]) (l₂ := [_, _, _])).append_right os)
        refine (rsepI_sync h6 (by omega) (show X.n + 2 ≤ 65536 by omega) (s : Int)).mono ?_
        rintro e w' ⟨h1, S', h2⟩
        have e1 : okEI (X.n + 2) (s : Int) = 0 := by unfold okEI; rw [if_pos hin]
        have e2 : syncDI (X.n + 2) X.D (s : Int) = syncD X.D s := by unfold syncDI; rw [if_pos hin, hs2]
        rw [show okEI ((midX X).n + 2) (s : Int) = 0 from e1] at h1
        rw [show syncDI ((midX X).n + 2) (midX X).D (s : Int) = syncD X.D s from e2] at h2
        exact ⟨h1, S', h2.perm ((List.perm_append_comm (l₁ := [_, _, _]) (l₂ := [_, _])).append_right os)⟩
      have hvr : Blk (w4.alloc (.cells #[.int .i64 at_, .bool dn, .slice A5 m5 c5] 64)) r 105 (rdCells R (midX X)) := HS5.out.get (.tail _ (.tail _ (.head _)))
      have q1 : (w4.alloc (.cells #[.int .i64 at_, .bool dn, .slice A5 m5 c5] 64)).cell? ⟨r, 1, none⟩ = some (.pointer (some ⟨R.g, 0, none⟩)) := hvr.cell 1
      clear hvr
      clear hin hs2
      go_wp2_with fail
      refine HDO.out.mono ?_
      rintro e w6 ⟨rfl, S', HS6⟩
      clear HDO q1
      go_wp2_with fail
      go_ret
      refine ⟨by unfold opE; rw [HTB.out]; rfl, { R with S := S' }, ?_⟩
      rw [opX_no HTB.out]
      exact HS6.out.sub (.cons _ (.cons _ (List.Sublist.refl _)))
    | true =>
      clear hin hs2
      have HCR := Lib.hid (rd_crash2 HS5.out HX.out.n32 HM.out (HT.out HTB.out).2.2)
      go_wp2_with fail
      refine HCR.out.mono ?_
      rintro e w6 ⟨rfl, R', HS6⟩
      have HS7 := Lib.hid HS6
      clear HS6 HCR
      go_wp2_with fail
      go_ret
      refine ⟨by unfold opE; rw [HTB.out]; rfl, R', ?_⟩
      rw [opX_mid _ _ HTB.out (HT.out HTB.out).2.1 (HT.out HTB.out).1]
      exact HS7.out
set_option maxRecDepth 100000 in
set_option maxHeartbeats 2000000 in
theorem rd_erase (h : Sep B w0 w (rv3 r R X os)) (hX : X.Ok) (hops : X.ops < 4611686018427387904) (i : Int) :
    Calls Tryz.prog 29 #[.pointer (some ⟨r, 0, none⟩), .int .i64 i] w fun e w' => e = .returned (.int .i64 (oneVE X i)) ∧ ∃ R', Sep B w0 w' (rv3 r R' (EraseVX X i) os) := by
  have hrd := h.rd hX
  have HCK := Lib.hid (rd_check hrd i)
  have hc := chk_cases X i
  have hn32 := hX.n32
  have q1 := hrd.c1
  have H := Lib.hid h
  have HX := Lib.hid hX
  unfold oneVE EraseVX
  obtain ⟨re, hr⟩ : ∃ re, chkE X i = re := ⟨_, rfl⟩
  rw [hr] at HCK hc ⊢
  clear h hX hrd hr
  rcases hc with ⟨_, rfl⟩ | ⟨_, _, _, rfl⟩ | ⟨_, rfl, hin, s, rfl, hs, hs2⟩
  · go_enter Tryz.func29, Tryz.ntmps29
    go_wp2_with fail
    refine HCK.out.mono ?_
    rintro e w' ⟨rfl, rfl⟩
    go_wp2_with fail
    go_ret
    exact ⟨rfl, R, H.out⟩
  · go_enter Tryz.func29, Tryz.ntmps29
    go_wp2_with fail
    refine HCK.out.mono ?_
    rintro e w' ⟨rfl, rfl⟩
    go_wp2_with fail
    go_ret
    exact ⟨rfl, R, H.out⟩
  · rw [if_pos rfl, if_pos rfl, hs2]
    have HCO := Lib.hid (rd_counted H.out HX.out hops)
    clear q1
    go_enter Tryz.func29, Tryz.ntmps29
    go_wp2_with fail
    refine HCK.out.mono ?_
    rintro e w' ⟨rfl, rfl⟩
    clear HCK
    go_wp2_with fail
    refine HCO.out.mono ?_
    intro e w4 hco
    obtain ⟨at_, dn, A5, m5, c5, keep, rfl, HT, HM, HS5⟩ := rd_box hco
    obtain ⟨e0, e1, e2⟩ := zplan_cells w4 (.int .i64 0) (.bool false) (.slice none 0 0)
    obtain ⟨g0, g1, g2⟩ := zplan_cells w4 (.int .i64 at_) (.bool dn) (.slice A5 m5 c5)
    clear hco HCO
    obtain ⟨tb, htb⟩ : ∃ tb, tickB X.T = tb := ⟨_, rfl⟩
    have HTB := Lib.hid htb
    rw [htb]
    clear htb
    cases tb with
    | false =>
      have HDO : Hid (Calls Tryz.prog 79 #[.pointer (some ⟨R.g, 0, none⟩), .int .i64 (s : Int)] (w4.alloc (.cells #[.int .i64 at_, .bool dn, .slice A5 m5 c5] 64)) fun e w' => e = .returned (.int .i64 0) ∧ ∃ S', Hid (Sep B w0 w' (blkOb w4.heap.size 64 #[.int .i64 at_, .bool dn, .slice A5 m5 c5] :: rowOb 3 1 (.slice A5 m5 c5) m5 (ints keep) :: rv3 r { R with S := S' } { midX X with D := eraseD X.D s } os))) := by
        have h6 : Sep B w0 (w4.alloc (.cells #[.int .i64 at_, .bool dn, .slice A5 m5 c5] 64)) (rv3 r R (midX X) (blkOb w4.heap.size 64 #[.int .i64 at_, .bool dn, .slice A5 m5 c5] :: rowOb 3 1 (.slice A5 m5 c5) m5 (ints keep) :: os)) := HS5.out.perm ((List.perm_append_comm (l₁ := [_, _]) (l₂ := [_, _, _])).append_right os)
        refine (rsepI_erase h6 (by omega) (show X.n + 2 ≤ 65536 by omega) (s : Int)).mono ?_
        rintro e w' ⟨h1, S', h2⟩
        have e1 : okEI (X.n + 2) (s : Int) = 0 := by unfold okEI; rw [if_pos hin]
        have e2 : eraseDI (X.n + 2) X.D (s : Int) = eraseD X.D s := by unfold eraseDI; rw [if_pos hin, hs2]
        rw [show okEI ((midX X).n + 2) (s : Int) = 0 from e1] at h1
        rw [show eraseDI ((midX X).n + 2) (midX X).D (s : Int) = eraseD X.D s from e2] at h2
        exact ⟨h1, S', h2.perm ((List.perm_append_comm (l₁ := [_, _, _]) (l₂ := [_, _])).append_right os)⟩
      have hvr : Blk (w4.alloc (.cells #[.int .i64 at_, .bool dn, .slice A5 m5 c5] 64)) r 105 (rdCells R (midX X)) := HS5.out.get (.tail _ (.tail _ (.head _)))
      have q1 : (w4.alloc (.cells #[.int .i64 at_, .bool dn, .slice A5 m5 c5] 64)).cell? ⟨r, 1, none⟩ = some (.pointer (some ⟨R.g, 0, none⟩)) := hvr.cell 1
      clear hvr
      clear hin hs2
      go_wp2_with fail
      refine HDO.out.mono ?_
      rintro e w6 ⟨rfl, S', HS6⟩
      clear HDO q1
      go_wp2_with fail
      go_ret
      refine ⟨by unfold opE; rw [HTB.out]; rfl, { R with S := S' }, ?_⟩
      rw [opX_no HTB.out]
      exact HS6.out.sub (.cons _ (.cons _ (List.Sublist.refl _)))
    | true =>
      cases dn with
      | true =>
        have HDO : Hid (Calls Tryz.prog 79 #[.pointer (some ⟨R.g, 0, none⟩), .int .i64 (s : Int)] (w4.alloc (.cells #[.int .i64 at_, .bool true, .slice A5 m5 c5] 64)) fun e w' => e = .returned (.int .i64 0) ∧ ∃ S', Hid (Sep B w0 w' (blkOb w4.heap.size 64 #[.int .i64 at_, .bool true, .slice A5 m5 c5] :: rowOb 3 1 (.slice A5 m5 c5) m5 (ints keep) :: rv3 r { R with S := S' } { midX X with D := eraseD X.D s } os))) := by
          have h6 : Sep B w0 (w4.alloc (.cells #[.int .i64 at_, .bool true, .slice A5 m5 c5] 64)) (rv3 r R (midX X) (blkOb w4.heap.size 64 #[.int .i64 at_, .bool true, .slice A5 m5 c5] :: rowOb 3 1 (.slice A5 m5 c5) m5 (ints keep) :: os)) := HS5.out.perm ((List.perm_append_comm (l₁ := [_, _]) (l₂ := [_, _, _])).append_right os)
          refine (rsepI_erase h6 (by omega) (show X.n + 2 ≤ 65536 by omega) (s : Int)).mono ?_
          rintro e w' ⟨h1, S', h2⟩
          have e1 : okEI (X.n + 2) (s : Int) = 0 := by unfold okEI; rw [if_pos hin]
          have e2 : eraseDI (X.n + 2) X.D (s : Int) = eraseD X.D s := by unfold eraseDI; rw [if_pos hin, hs2]
          rw [show okEI ((midX X).n + 2) (s : Int) = 0 from e1] at h1
          rw [show eraseDI ((midX X).n + 2) (midX X).D (s : Int) = eraseD X.D s from e2] at h2
          exact ⟨h1, S', h2.perm ((List.perm_append_comm (l₁ := [_, _, _]) (l₂ := [_, _])).append_right os)⟩
        have hvr : Blk (w4.alloc (.cells #[.int .i64 at_, .bool true, .slice A5 m5 c5] 64)) r 105 (rdCells R (midX X)) := HS5.out.get (.tail _ (.tail _ (.head _)))
        have q1 : (w4.alloc (.cells #[.int .i64 at_, .bool true, .slice A5 m5 c5] 64)).cell? ⟨r, 1, none⟩ = some (.pointer (some ⟨R.g, 0, none⟩)) := hvr.cell 1
        clear hvr
        clear hin hs2
        go_wp2_with fail
        refine HDO.out.mono ?_
        rintro e w6 ⟨rfl, S', HS6⟩
        have kb : Blk w6 w4.heap.size 64 #[.int .i64 at_, .bool true, .slice A5 m5 c5] := HS6.out.get (.head _)
        have u0 : w6.cell? ⟨w4.heap.size, 0, none⟩ = some (.int .i64 at_) := kb.cell 0
        have u1 : w6.cell? ⟨w4.heap.size, 1, none⟩ = some (.bool true) := kb.cell 1
        have u2 : w6.cell? ⟨w4.heap.size, 2, none⟩ = some (.slice A5 m5 c5) := kb.cell 2
        have HCR := Lib.hid (rd_crash2 HS6.out HX.out.n32 HM.out (HT.out HTB.out).2.2)
        clear HDO q1 kb
        go_wp2_with fail
        refine HCR.out.mono ?_
        rintro e w7 ⟨rfl, R', HS6⟩
        have HS7 := Lib.hid HS6
        clear HS6 HCR
        go_wp2_with fail
        go_ret
        refine ⟨by unfold opE; rw [HTB.out]; rfl, R', ?_⟩
        rw [opX_mid _ _ HTB.out (HT.out HTB.out).2.1 (HT.out HTB.out).1]
        exact HS7.out
      | false =>
        clear hin hs2
        have HCR := Lib.hid (rd_crash2 HS5.out HX.out.n32 HM.out (HT.out HTB.out).2.2)
        go_wp2_with fail
        refine HCR.out.mono ?_
        rintro e w6 ⟨rfl, R', HS6⟩
        have HS7 := Lib.hid HS6
        clear HS6 HCR
        go_wp2_with fail
        go_ret
        refine ⟨by unfold opE; rw [HTB.out]; rfl, R', ?_⟩
        rw [opX_mid _ _ HTB.out (HT.out HTB.out).2.1 (HT.out HTB.out).1]
        exact HS7.out
set_option maxRecDepth 100000 in
set_option maxHeartbeats 400000 in
theorem rd_restart (h : Sep B w0 w (rv3 r R X os)) (hX : X.Ok) :
    Calls Tryz.prog 27 #[.pointer (some ⟨r, 0, none⟩)] w fun e w' => e = .returned (.int .i64 0) ∧ Sep B w0 w' (rv3 r R (restartX X) os) := by
  have hrd := h.rd hX
  have HV := Lib.hid (rd_valid hrd)
  have q4 := hrd.c4
  have f4 := hrd.blk.frozen 4
  have H := Lib.hid h
  clear h hrd
  go_enter Tryz.func27, Tryz.ntmps27
  go_wp2_with fail
  refine HV.out.mono ?_
  rintro e w' ⟨rfl, rfl⟩
  go_wp2_with fail
  go_ret
  exact ⟨rfl, H.out.setBlk 4 (.bool false)⟩
end
end Go.Proofs.YtnopljanpjmbgaaGreat

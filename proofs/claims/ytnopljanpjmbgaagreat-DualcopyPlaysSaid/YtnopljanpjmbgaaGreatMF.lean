/-
  fault.Check: whether a plan is valid; fault.Check, and copies of a plan; fault.clone, and a timer in memory; A timer's methods: New, Tick, Plan; A timer's Plan and Arm; A timer's Arm and Copy.
-/
import Derived.Test.YtnopljanpjmbgaaGreatMC
import Derived.Deep.AppendLies
namespace Go.Proofs.YtnopljanpjmbgaaGreat
open Go.RowKit
set_option linter.unusedVariables false
def badKeep (z : Int) : Bool := !(decide (0 ≤ z) && decide (z ≤ 8192))
def okPlan (at_ : Int) (keep : List Int) : Prop := (0 ≤ at_ ∧ at_ ≤ 1000000) ∧ (1 ≤ keep.length ∧ keep.length ≤ 34) ∧ ∀ z ∈ keep, 0 ≤ z ∧ z ≤ 8192
instance (at_ : Int) (keep : List Int) : Decidable (okPlan at_ keep) := by unfold okPlan; infer_instance
set_option maxRecDepth 100000 in
set_option maxHeartbeats 400000 in
theorem in_most (n most : Int) (w : World) :
    Calls Tryz.prog 143 #[.int .i64 n, .int .i64 most] w fun e w' => e = .returned (.bool (decide (0 ≤ n) && decide (n ≤ most))) ∧ w = w' := by
  by_cases h : 0 ≤ n
  · have e : (decide (0 ≤ n) && decide (n ≤ most)) = decide (n ≤ most) := by simp [h]
    rw [e]
    clear e
    go_enter Tryz.func143, Tryz.ntmps143
    go_wp2_with fail
    go_ret
    exact ⟨rfl, rfl⟩
  · have e : (decide (0 ≤ n) && decide (n ≤ most)) = false := by simp [h]
    rw [e]
    clear e
    go_enter Tryz.func143, Tryz.ntmps143
    go_wp2_with fail
    go_ret
    exact ⟨rfl, rfl⟩
set_option maxRecDepth 100000 in
set_option maxHeartbeats 400000 in
theorem check1_any (z : Int) (w : World) :
    Calls Tryz.prog 145 #[.int .i64 z] w fun e w' => e = .returned (.bool (badKeep z)) ∧ w = w' := by
  unfold badKeep
  obtain ⟨v, hv⟩ : ∃ v, (decide (0 ≤ z) && decide (z ≤ 8192)) = v := ⟨_, rfl⟩
  have HI := Lib.hid (in_most z 8192 w)
  rw [hv] at HI ⊢
  clear hv
  go_enter Tryz.func145, Tryz.ntmps145
  go_wp2_with fail
  refine HI.out.mono ?_
  rintro e w' ⟨rfl, rfl⟩
  go_wp2_with fail
  go_ret
  exact ⟨rfl, rfl⟩
set_option maxRecDepth 100000 in
set_option maxHeartbeats 2000000 in
theorem index_bad (A : Option Addr) (m c : Nat) (zs : List Int) (w : World) (hr : Reads w w.heap.size 1 A m (ints zs)) (hm : m ≤ 4611686018427387904) :
    Calls Tryz.prog 152 #[.slice A m c, .func (.func 145) #[] #[]] w fun e w' => ∃ r, e = .returned (.int .i64 r) ∧ (0 ≤ r ↔ ∃ z ∈ zs, badKeep z = true) ∧ w = w' := by
  have hlen : zs.length = m := by have := hr.1; rw [ints_length] at this; omega
  have HL := Lib.hid hlen
  have HC : Hid (∀ k, k < m → ∃ ad, A = some ad ∧ w.cell? (ad.add k) = some (.int .i64 (zs.getD k 0))) := fun k hk => by
    obtain ⟨ad, u, e, _, hx, hc⟩ := hr.at_ hk
    have hkz : k < zs.length := by omega
    rw [ints_at hkz] at hx
    injection hx with hx
    subst hx
    refine ⟨ad, e, ?_⟩
    rw [hc, List.getD_eq_getElem?_getD, List.getElem?_eq_getElem hkz, Option.getD_some]
  clear hr hlen
  go_enter Tryz.func152, Tryz.ntmps152
  go_wp2_with fail
  go_loopg [8] m (fun q v8 wr => ∃ (j : Nat), j + q = m ∧ v8 = .int .i64 j ∧ (∀ k, k < j → badKeep (zs.getD k 0) = false) ∧ w = wr)
  case atStart => exact ⟨0, by omega, rfl, fun k hk => by omega, rfl⟩
  case round =>
    obtain ⟨j, hj, rfl, hb, rfl⟩ := hrel
    have HJ := Lib.hid hj
    have hj' : j ≤ m := by omega
    have HB := Lib.hid hb
    clear hb
    by_cases hlt : j < m
    · obtain ⟨ad, rfl, qc⟩ := HC.out j hlt
      obtain ⟨z, hz⟩ : ∃ z, zs.getD j 0 = z := ⟨_, rfl⟩
      rw [hz] at qc
      have HZ := Lib.hid hz
      have hck := check1_any z w
      obtain ⟨bz, hbz⟩ : ∃ bz, badKeep z = bz := ⟨_, rfl⟩
      rw [hbz] at hck
      have HCK := Lib.hid hck
      have HBZ := Lib.hid hbz
      clear hj hz hck hbz
      go_wp2_with fail
      refine HCK.out.mono ?_
      rintro e w' ⟨rfl, rfl⟩
      cases bz with
      | true =>
        go_wp2_with fail
        go_ret
        refine ⟨j, rfl, ⟨fun _ => ?_, fun _ => by omega⟩, rfl⟩
        have hjz : j < zs.length := by rw [HL.out]; exact hlt
        have h2 := HZ.out
        rw [List.getD_eq_getElem?_getD, List.getElem?_eq_getElem hjz, Option.getD_some] at h2
        exact ⟨_, List.getElem_mem hjz, by rw [h2]; exact HBZ.out⟩
      | false =>
        go_wp2_with fail
        go_roundg (gk - 1)
        case measure => have := HJ.out; omega
        case rel =>
          refine ⟨j + 1, by have := HJ.out; omega, by go_num, fun k hk => ?_, rfl⟩
          by_cases e : k = j
          · subst e; rw [HZ.out]; exact HBZ.out
          · exact HB.out k (by omega)
    · have e8 : j = m := by omega
      subst e8
      clear hj
      go_wp2_with fail
      go_ret
      refine ⟨-1, rfl, ⟨fun h => by omega, fun ⟨z, h1, h2⟩ => ?_⟩, rfl⟩
      obtain ⟨k, hk, rfl⟩ := List.mem_iff_getElem.1 h1
      have := HB.out k (by rw [← HL.out]; exact hk)
      rw [List.getD_eq_getElem?_getD, List.getElem?_eq_getElem hk, Option.getD_some] at this
      rw [this] at h2
      cases h2
theorem contains_bad (A : Option Addr) (m c : Nat) (zs : List Int) (w : World) (hr : Reads w w.heap.size 1 A m (ints zs)) (hm : m ≤ 4611686018427387904) :
    Calls Tryz.prog 144 #[.slice A m c, .func (.func 145) #[] #[]] w fun e w' => ∃ v, e = .returned (.bool v) ∧ (v = true ↔ ∃ z ∈ zs, badKeep z = true) ∧ w = w' := by
  have HI := Lib.hid (index_bad A m c zs w hr hm)
  clear hr hm
  go_enter Tryz.func144, Tryz.ntmps144
  go_wp2_with fail
  refine HI.out.mono ?_
  rintro e w' ⟨r, rfl, hr, rfl⟩
  have HR := Lib.hid hr
  clear hr
  go_wp2_with fail
  go_ret
  exact ⟨decide (0 ≤ r), rfl, by rw [decide_eq_true_iff]; exact HR.out, rfl⟩
theorem all_keep (zs : List Int) : (∀ z ∈ zs, 0 ≤ z ∧ z ≤ 8192) ↔ ¬ ∃ z ∈ zs, badKeep z = true := by
  unfold badKeep
  constructor
  · rintro h ⟨z, hz, hb⟩
    have := h z hz
    simp [this.1, this.2] at hb
  · intro h z hz
    apply Classical.byContradiction
    intro hn
    apply h
    refine ⟨z, hz, ?_⟩
    by_cases h0 : 0 ≤ z
    · have : ¬ z ≤ 8192 := fun h1 => hn ⟨h0, h1⟩
      simp [h0, this]
    · simp [h0]
end Go.Proofs.YtnopljanpjmbgaaGreat
namespace Go.Proofs.YtnopljanpjmbgaaGreat
open Go.RowKit
set_option linter.unusedVariables false
theorem clone_int_info : (Tryz.prog.info? 3).map (fun i => (i.zero, i.size, i.bytes)) = some (some (.int .i64 0), 1, 8) := by kernel_rfl
def planV (at_ : Int) (dn : Bool) (A : Option Addr) (n c : Nat) : Value := .agg #[.int .i64 at_, .bool dn, .slice A n c]
set_option maxRecDepth 100000 in
set_option maxHeartbeats 2000000 in
theorem check_plan (at_ : Int) (dn : Bool) (A : Option Addr) (n c : Nat) (keep : List Int) (w : World) (hr : Reads w w.heap.size 1 A n (ints keep)) (hn : n ≤ c) (hc : c ≤ maxLen) (hat : -9223372036854775808 ≤ at_ ∧ at_ ≤ 9223372036854775807) :
    Calls Tryz.prog 119 #[planV at_ dn A n c] w fun e w' => e = .returned (.int .i64 (if okPlan at_ keep then 0 else 2)) ∧ Below w.heap.size w w' := by
  have hlen : keep.length = n := by have := hr.1; rw [ints_length] at this; omega
  have HR : Hid (Reads (w.alloc (.cells #[.int .i64 at_, .bool dn, .slice A n c] 64)) (w.alloc (.cells #[.int .i64 at_, .bool dn, .slice A n c] 64)).heap.size 1 A n (ints keep)) := (hr.alloc (Nat.le_refl _) _).more (by simp)
  unfold maxLen at hc
  obtain ⟨b1, hb1⟩ : ∃ b1, (decide (0 ≤ at_) && decide (at_ ≤ 1000000)) = b1 := ⟨_, rfl⟩
  obtain ⟨b2, hb2⟩ : ∃ b2, (decide (0 ≤ (n : Int) - 1) && decide ((n : Int) - 1 ≤ 33)) = b2 := ⟨_, rfl⟩
  have HI1 := Lib.hid (fun W => in_most at_ 1000000 W)
  have HI2 := Lib.hid (fun W => in_most ((n : Int) - 1) 33 W)
  rw [hb1] at HI1
  rw [hb2] at HI2
  have HP : Hid (okPlan at_ keep ↔ (b1 = true ∧ b2 = true ∧ ¬ ∃ z ∈ keep, badKeep z = true)) := by
    unfold Hid okPlan
    rw [all_keep, ← hb1, ← hb2, hlen]
    simp only [Bool.and_eq_true, decide_eq_true_eq]
    constructor
    · rintro ⟨⟨h1, h2⟩, ⟨h3, h4⟩, h5⟩
      exact ⟨⟨h1, h2⟩, ⟨by omega, by omega⟩, h5⟩
    · rintro ⟨⟨h1, h2⟩, ⟨h3, h4⟩, h5⟩
      exact ⟨⟨h1, h2⟩, ⟨by omega, by omega⟩, h5⟩
  have HB : Hid (Below w.heap.size w (w.alloc (.cells #[.int .i64 at_, .bool dn, .slice A n c] 64))) := (Below.refl _ _).alloc (Nat.le_refl _) _
  have HN2 : Hid (b2 = true → n ≤ 34) := fun h => by rw [← hb2] at h; simp only [Bool.and_eq_true, decide_eq_true_eq] at h; omega
  obtain ⟨ce, hce⟩ : ∃ ce : Int, (if okPlan at_ keep then 0 else 2) = ce := ⟨_, rfl⟩
  have HCE : Hid ((okPlan at_ keep → ce = 0) ∧ (¬ okPlan at_ keep → ce = 2)) := ⟨fun h => by rw [← hce, if_pos h], fun h => by rw [← hce, if_neg h]⟩
  rw [hce]
  clear hr hlen hb1 hb2 hce
  unfold planV
  cases b1 with
  | false =>
    have e : ¬ okPlan at_ keep := fun h => by have := (HP.out.1 h).1; cases this
    obtain rfl := HCE.out.2 e
    clear e
    go_enter Tryz.func119, Tryz.ntmps119
    go_wp2_with fail
    refine (HI1.out _).mono ?_
    rintro e w' ⟨rfl, rfl⟩
    go_wp2_with fail
    go_ret
    exact ⟨rfl, HB.out⟩
  | true =>
    cases b2 with
    | false =>
      have e : ¬ okPlan at_ keep := fun h => by have := (HP.out.1 h).2.1; cases this
      obtain rfl := HCE.out.2 e
      clear e
      go_enter Tryz.func119, Tryz.ntmps119
      go_wp2_with fail
      refine (HI1.out _).mono ?_
      rintro e w' ⟨rfl, rfl⟩
      go_wp2_with fail
      refine (HI2.out _).mono ?_
      rintro e w' ⟨rfl, rfl⟩
      go_wp2_with fail
      go_ret
      exact ⟨rfl, HB.out⟩
    | true =>
      have hn34 := HN2.out rfl
      go_enter Tryz.func119, Tryz.ntmps119
      go_wp2_with fail
      refine (HI1.out _).mono ?_
      rintro e w' ⟨rfl, rfl⟩
      go_wp2_with fail
      refine (HI2.out _).mono ?_
      rintro e w' ⟨rfl, rfl⟩
      go_wp2_with fail
      refine (contains_bad A n c keep _ HR.out (by omega)).mono ?_
      rintro e w' ⟨v, rfl, hv, rfl⟩
      cases v with
      | true =>
        have e : ¬ okPlan at_ keep := fun h => (HP.out.1 h).2.2 (hv.1 rfl)
        obtain rfl := HCE.out.2 e
        clear e hv
        go_wp2_with fail
        go_ret
        exact ⟨rfl, HB.out⟩
      | false =>
        have e : okPlan at_ keep := HP.out.2 ⟨by trivial, by trivial, fun h => by have := hv.2 h; cases this⟩
        obtain rfl := HCE.out.1 e
        clear e hv
        go_wp2_with fail
        go_ret
        exact ⟨rfl, HB.out⟩
set_option maxRecDepth 100000 in
set_option maxHeartbeats 400000 in
theorem clone_ints (A : Option Addr) (n c B : Nat) (l : List Int) (w : World) (hr : Reads w B 1 A n (ints l)) (hB : B ≤ w.heap.size) (hn : n ≤ 65536) (hz : A = none → c = 0) :
    Calls Tryz.prog 146 #[.slice A n c] w fun e w' => ∃ v, e = .returned v ∧ w'.ownsRow w.heap.size 3 1 v n (ints l) ∧ Below w.heap.size w w' := by
  obtain ⟨i0, hi0, hz0, hz1, hz2⟩ := info_parts clone_int_info
  have HR := Lib.hid hr
  have HONE : Hid (∀ u ∈ ints l, u.oneCell' = true) := fun u hu => by simp only [ints, List.mem_map] at hu; obtain ⟨x, _, rfl⟩ := hu; rfl
  clear hr
  cases A with
  | none =>
    obtain rfl := hz rfl
    have hn0 : n = 0 := by
      rcases Nat.eq_zero_or_pos n with h | h
      · exact h
      · obtain ⟨ad, e, _⟩ := HR.out.2 h; cases e
    subst hn0
    have hl : ints l = [] := List.eq_nil_of_length_eq_zero (by simpa using HR.out.1)
    have HL := Lib.hid hl
    clear hl
    have hq := fun W => Lib.run_eql_slice_nil (P := Tryz.prog) W 62 3 none 0 0 0 0 Tryz.underlying62
    go_enter Tryz.func146, Tryz.ntmps146
    go_wp2
    go_ret
    exact ⟨_, rfl, by rw [HL.out]; exact World.ownsRow_nil _ _ _ _, Below.refl _ _⟩
  | some a =>
    have hq := fun W => Lib.run_eql_slice_nil (P := Tryz.prog) W 62 3 (some a) n c 0 0 Tryz.underlying62
    have hown0 : (w.alloc (.cells #[] 3)).ownsRow w.heap.size 3 1 (.slice (some ⟨w.heap.size, 0, none⟩) 0 0) 0 [] := World.ownsRow_made w #[] 0 (Nat.le_refl _) (by unfold maxLen; omega) (by simp)
    have HO := Lib.hid hown0
    clear hown0
    have HBL : Hid (∀ p : Addr, p.block < B → (w.alloc (.cells #[] 3)).cell? p = w.cell? p) := fun p hp => World.cell?_alloc_lt w _ p (by omega)
    go_enter Tryz.func146, Tryz.ntmps146
    go_wp2_with (at_builtin
                 refine wpList_append_g _ rfl (.tmp 5) (.tmp 6) _ rfl w.heap.size 3 i0 _ 1 8 Tryz.underlying62 hi0 hz0 hz1 hz2 rfl (by omega) (.slice (some ⟨w.heap.size, 0, none⟩) 0 0) 0 [] rfl
                   HO.out B (some a) n c (ints l) rfl (HR.out.keep (fun p hp => HBL.out p hp)) (HONE.out) (by simp only [maxLen]; omega) (by omega) (by simp) ?_
                 intro v1 w4 hown1 hg1 hat1
                 have HO1 := Lib.hid hown1
                 have HB4 := Lib.hid (((Below.refl w.heap.size w).alloc (Nat.le_refl _) (.cells #[] 3)).grown hg1 (by simp) (by intro q hq; simp [Value.ownBlock] at hq; omega))
                 clear hown1 hg1 hat1)
    go_ret
    exact ⟨_, rfl, by simpa using HO1.out, HB4.out⟩
end Go.Proofs.YtnopljanpjmbgaaGreat
namespace Go.Proofs.YtnopljanpjmbgaaGreat
open Go.RowKit
set_option linter.unusedVariables false
set_option maxRecDepth 100000 in
set_option maxHeartbeats 2000000 in
theorem clone_plan (at_ : Int) (dn : Bool) (A : Option Addr) (n c : Nat) (keep : List Int) (w : World) (hr : Reads w w.heap.size 1 A n (ints keep)) (hn : n ≤ 65536) (hz : A = none → c = 0) :
    Calls Tryz.prog 120 #[planV at_ dn A n c] w fun e w' => ∃ A' c', e = .returned (planV at_ dn A' n c') ∧ w'.ownsRow w.heap.size 3 1 (.slice A' n c') n (ints keep) ∧ Below w.heap.size w w' := by
  obtain ⟨W1, hW1⟩ : ∃ W1, W1 = (w.alloc (.cells #[.int .i64 at_, .bool dn, .slice A n c] 64)).alloc (.cells #[.int .i64 0, .bool false, .slice none 0 0] 64) := ⟨_, rfl⟩
  have hb1 : Below w.heap.size w W1 := by rw [hW1]; exact ((Below.refl _ _).alloc (Nat.le_refl _) _).alloc (by simp) _
  have hs1 : W1.heap.size = w.heap.size + 2 := by rw [hW1]; simp
  have k0 : Blk W1 w.heap.size 64 #[.int .i64 at_, .bool dn, .slice A n c] := by rw [hW1]; exact (Blk.new w _ _).alloc _
  have k1 : Blk W1 (w.heap.size + 1) 64 #[.int .i64 0, .bool false, .slice none 0 0] := by
    rw [hW1]
    have := Blk.new (w.alloc (.cells #[.int .i64 at_, .bool dn, .slice A n c] 64)) 64 #[.int .i64 0, .bool false, .slice none 0 0]
    rwa [World.size_alloc] at this
  have q2 : W1.cell? ⟨w.heap.size, 2, none⟩ = some (.slice A n c) := k0.cell 2
  have HC := Lib.hid (clone_ints A n c w.heap.size keep W1 (hr.below hb1) hb1.size hn hz)
  have K0 := Lib.hid k0
  have K1 := Lib.hid k1
  have HB1 := Lib.hid hb1
  have HS1 := Lib.hid hs1
  clear hr hb1 hs1 k0 k1
  unfold planV
  go_enter Tryz.func120, Tryz.ntmps120
  go_wp2_with fail
  rw [← hW1]
  clear hW1
  go_wp2_with fail
  refine HC.out.mono ?_
  rintro e w2 ⟨v2, rfl, ho, hb⟩
  obtain ⟨A2, c2, rfl, h21, h22, _⟩ := own_slice ho
  have m0 := K0.out.below hb K0.out.lt
  have m1 := K1.out.below hb K1.out.lt
  have q2' : w2.cell? ⟨w.heap.size, 2, none⟩ = some (.slice A n c) := m0.cell 2
  have f2 := m0.frozen 2
  have q0' : w2.cell? ⟨w.heap.size, 0, none⟩ = some (.int .i64 at_) := m0.cell 0
  have q1' : w2.cell? ⟨w.heap.size, 1, none⟩ = some (.bool dn) := m0.cell 1
  have r0 : w2.cell? ⟨w.heap.size + 1, 0, none⟩ = some (.int .i64 0) := m1.cell 0
  have r1 : w2.cell? ⟨w.heap.size + 1, 1, none⟩ = some (.bool false) := m1.cell 1
  have r2 : w2.cell? ⟨w.heap.size + 1, 2, none⟩ = some (.slice none 0 0) := m1.cell 2
  have g0 := m1.frozen 0
  have g1 := m1.frozen 1
  have g2 := m1.frozen 2
  have HO := Lib.hid ho
  have HB2 := Lib.hid hb
  clear ho hb q2
  go_wp2_with fail
  obtain ⟨W5, hW5⟩ : ∃ W5, W5 = (((w2.setCell ⟨w.heap.size, 2, none⟩ (.slice A2 n c2)).setCell ⟨w.heap.size + 1, 0, none⟩ (.int .i64 at_)).setCell ⟨w.heap.size + 1, 1, none⟩ (.bool dn)).setCell ⟨w.heap.size + 1, 2, none⟩ (.slice A2 n c2) := ⟨_, rfl⟩
  have hk : Blk W5 (w.heap.size + 1) 64 #[.int .i64 at_, .bool dn, .slice A2 n c2] := by
    rw [hW5]
    have := (((m1.far (p := ⟨w.heap.size, 2, none⟩) (by show w.heap.size + 1 ≠ w.heap.size; omega) (.slice A2 n c2)).set_ 0 (.int .i64 at_)).set_ 1 (.bool dn)).set_ 2 (.slice A2 n c2)
    exact this
  have hch : Chg (fun k => k = w.heap.size ∨ k = w.heap.size + 1) w2 W5 := by
    rw [hW5]
    exact ((((Chg.refl (fun k => k = w.heap.size ∨ k = w.heap.size + 1) w2).setCell (p := ⟨w.heap.size, 2, none⟩) (.inl (.inl rfl)) _).setCell (p := ⟨w.heap.size + 1, 0, none⟩) (.inl (.inr rfl)) _).setCell (p := ⟨w.heap.size + 1, 1, none⟩) (.inl (.inr rfl)) _).setCell (p := ⟨w.heap.size + 1, 2, none⟩) (.inl (.inr rfl)) _
  rw [← hW5]
  have e0 : W5.cell? ⟨w.heap.size + 1, 0, none⟩ = some (.int .i64 at_) := hk.cell 0
  have e1 : W5.cell? ⟨w.heap.size + 1, 1, none⟩ = some (.bool dn) := hk.cell 1
  have e2 : W5.cell? ⟨w.heap.size + 1, 2, none⟩ = some (.slice A2 n c2) := hk.cell 2
  refine bodyPost_ret (v := .agg #[.int .i64 at_, .bool dn, .slice A2 n c2]) (by simp [results, Tryz.f120, go_sem, e0, e1, e2]) rfl ?_
  have hs1 := HS1.out
  refine ⟨A2, c2, rfl, own_base (own_chg HO.out hch (fun k hk hF => ?_)) (fun k hk => ?_), (HB1.out.trans (HB2.out.mono HB1.out.size)).trans (hch.below (Nat.le_trans HB1.out.size HB2.out.size) (fun k hk => by omega))⟩
  · have := (HO.out.lt k hk).1
    omega
  · have := (HO.out.lt k hk).1
    omega
structure PlanD where
  at_ : Int
  dn : Bool
  keep : List Int
/-- A timer in memory: its block; the plan's block and the numbers' block, where there is a plan. -/
def IsTimer (w : World) (t pb : Nat) (kb : Option Nat) : Option PlanD → Prop
  | none => Blk w t 140 #[.bool true, .pointer none]
  | some p => Blk w t 140 #[.bool true, .pointer (some ⟨pb, 0, none⟩)] ∧ pb ≠ t ∧ ∃ A n c, Blk w pb 64 #[.int .i64 p.at_, .bool p.dn, .slice A n c] ∧ w.ownsRow 0 3 1 (.slice A n c) n (ints p.keep) ∧ kb = (Value.slice A n c).ownBlock ∧ kb ≠ some pb ∧ kb ≠ some t
end Go.Proofs.YtnopljanpjmbgaaGreat
namespace Go.Proofs.YtnopljanpjmbgaaGreat
open Go.RowKit
set_option linter.unusedVariables false
set_option maxHeartbeats 400000 in
theorem timer_new (w : World) :
    Calls Tryz.prog 53 #[] w fun e w' => e = .returned (.pointer (some ⟨w.heap.size, 0, none⟩)) ∧ IsTimer w' w.heap.size 0 none none ∧ Below w.heap.size w w' := by
  go_enter Tryz.func53, Tryz.ntmps53
  go_wp2_with fail
  go_ret
  exact ⟨rfl, Blk.new _ _ _, (Below.refl _ _).alloc (Nat.le_refl _) _⟩
/-- A timer's blocks. -/
def tmfoot (t pb : Nat) (kb : Option Nat) : Option PlanD → Nat → Prop
  | none => fun k => k = t
  | some _ => fun k => k = t ∨ k = pb ∨ kb = some k
section
variable {w w' : World} {t pb : Nat} {kb : Option Nat} {P : Option PlanD}
theorem IsTimer.chg {F : Nat → Prop} (h : IsTimer w t pb kb P) (hc : Chg F w w') (hF : ∀ k, tmfoot t pb kb P k → ¬ F k) : IsTimer w' t pb kb P := by
  cases P with
  | none => exact Blk.chg (show Blk w t _ _ from h) hc (hF _ rfl)
  | some p =>
    obtain ⟨h1, h2, A, n, c, h3, h4, h5, h6, h7⟩ := h
    exact ⟨h1.chg hc (hF _ (.inl rfl)), h2, A, n, c, h3.chg hc (hF _ (.inr (.inl rfl))), own_chg h4 hc (fun k hk => hF k (.inr (.inr (h5.trans hk)))), h5, h6, h7⟩
theorem IsTimer.lt (h : IsTimer w t pb kb P) : ∀ k, tmfoot t pb kb P k → k < w.heap.size := by
  cases P with
  | none =>
    intro k hk
    have hk' : k = t := hk
    rw [hk']
    exact Blk.lt (show Blk w t _ _ from h)
  | some p =>
    obtain ⟨h1, h2, A, n, c, h3, h4, h5, h6, h7⟩ := h
    rintro k (rfl | rfl | hk)
    · exact h1.lt
    · exact h3.lt
    · exact (h4.lt k (h5.symm.trans hk)).2
theorem IsTimer.below (h : IsTimer w t pb kb P) (hb : Below w.heap.size w w') : IsTimer w' t pb kb P := h.chg (F := fun _ => False) (Chg.of_below hb) (fun _ _ h => h)
/-- What a tick leaves. -/
def tickP (P : Option PlanD) : Option PlanD := P.bind fun p => if 0 < p.at_ - 1 then some ⟨p.at_ - 1, p.dn, p.keep⟩ else none
def tickB (P : Option PlanD) : Bool := match P with
  | none => false
  | some p => decide (¬ 0 < p.at_ - 1)
set_option maxRecDepth 100000 in
set_option maxHeartbeats 2000000 in
theorem timer_tick (h : IsTimer w t pb kb P) (hP : ∀ p, P = some p → 1 ≤ p.at_ ∧ p.at_ ≤ 1000000) :
    Calls Tryz.prog 86 #[.pointer (some ⟨t, 0, none⟩)] w fun e w' => e = .returned (.bool (tickB P)) ∧ IsTimer w' t pb kb (tickP P) ∧ Chg (tmfoot t pb kb P) w w' := by
  cases P with
  | none =>
    have h' : Blk w t 140 #[.bool true, .pointer none] := h
    have q1 : w.cell? ⟨t, 1, none⟩ = some (.pointer none) := h'.cell 1
    have H := Lib.hid h
    clear h h' hP
    go_enter Tryz.func86, Tryz.ntmps86
    go_wp2_with fail
    go_ret
    exact ⟨rfl, H.out, Chg.refl _ _⟩
  | some p =>
    obtain ⟨at_, dn, keep⟩ := p
    obtain ⟨hp1, hp2⟩ := hP _ rfl
    obtain ⟨h1, h2, A, n, c, h3, h4, h5, h6, h7⟩ := h
    dsimp only at hp1 hp2 h3 h4
    have q1 : w.cell? ⟨t, 1, none⟩ = some (.pointer (some ⟨pb, 0, none⟩)) := h1.cell 1
    have q2 : w.cell? ⟨pb, 0, none⟩ = some (.int .i64 at_) := h3.cell 0
    have f1 := h1.frozen 1
    have f2 := h3.frozen 0
    obtain ⟨w1, hw1⟩ : ∃ w1, w1 = w.setCell ⟨pb, 0, none⟩ (.int .i64 (at_ - 1)) := ⟨_, rfl⟩
    have hc1 : Chg (fun k => k = pb) w w1 := by rw [hw1]; exact (Chg.refl (fun k => k = pb) w).setCell (p := ⟨pb, 0, none⟩) (.inl rfl) _
    have g1 : Blk w1 t 140 #[.bool true, .pointer (some ⟨pb, 0, none⟩)] := h1.chg hc1 (fun e => h2 e.symm)
    have g3 : Blk w1 pb 64 #[.int .i64 (at_ - 1), .bool dn, .slice A n c] := by rw [hw1]; exact h3.set_ 0 (.int .i64 (at_ - 1))
    have g4 : w1.ownsRow 0 3 1 (.slice A n c) n (ints keep) := own_chg h4 hc1 (fun k hk e => h6 (by rw [h5, hk, e]))
    have HT : Hid (IsTimer w1 t pb kb (some ⟨at_ - 1, dn, keep⟩)) := ⟨g1, h2, A, n, c, g3, g4, h5, h6, h7⟩
    have HCH : Hid (Chg (tmfoot t pb kb (some ⟨at_, dn, keep⟩)) w w1) := hc1.mono (fun k _ hk => .inr (.inl hk))
    have y1 : w1.cell? ⟨t, 1, none⟩ = some (.pointer (some ⟨pb, 0, none⟩)) := g1.cell 1
    have y2 : w1.cell? ⟨pb, 0, none⟩ = some (.int .i64 (at_ - 1)) := g3.cell 0
    have z1 := g1.frozen 1
    have HG1 := Lib.hid g1
    have HW1 := Lib.hid hw1
    clear h1 h2 h3 h4 h5 h6 h7 hc1 g1 g3 g4 hP
    unfold tickB tickP
    by_cases hlt : 0 < at_ - 1
    · have e1 : decide (¬ 0 < at_ - 1) = false := by simp; omega
      dsimp only [Option.bind]
      rw [e1, if_pos hlt]
      clear e1
      go_enter Tryz.func86, Tryz.ntmps86
      go_wp2_with fail
      rw [← hw1]
      clear hw1
      go_wp2_with fail
      go_ret
      exact ⟨rfl, HT.out, HCH.out⟩
    · have e1 : decide (¬ 0 < at_ - 1) = true := by simp; omega
      dsimp only [Option.bind]
      rw [e1, if_neg hlt]
      clear e1
      go_enter Tryz.func86, Tryz.ntmps86
      go_wp2_with fail
      rw [← hw1]
      clear hw1
      go_wp2_with fail
      go_ret
      exact ⟨rfl, HG1.out.set_ 1 (.pointer none), HCH.out.trans ((Chg.refl (fun k => k = t) w1).setCell (p := ⟨t, 1, none⟩) (.inl rfl) _) (fun k _ hk => .inl hk)⟩
end
end Go.Proofs.YtnopljanpjmbgaaGreat
namespace Go.Proofs.YtnopljanpjmbgaaGreat
open Go.RowKit
set_option linter.unusedVariables false
section
variable {w w' : World} {t pb : Nat} {kb : Option Nat} {P : Option PlanD}
theorem own_nil_cap {base n c size : Nat} {e : TypeId} {A : Option Addr} {xs : List Value} (h : w.ownsRow base e size (.slice A n c) n xs) : A = none → c = 0 := fun hA => by
  rcases h.2 with ⟨h1, _⟩ | ⟨g, cap, cur, h1, _⟩
  · injection h1
  · injection h1 with h1
    rw [hA] at h1
    cases h1
set_option maxRecDepth 100000 in
set_option maxHeartbeats 2000000 in
theorem timer_plan_none (h : IsTimer w t pb kb none) :
    Calls Tryz.prog 85 #[.pointer (some ⟨t, 0, none⟩)] w fun e w' => e = .returned (.tuple #[planV 0 false none 0 0, .bool false]) ∧ Below w.heap.size w w' := by
  have h' : Blk w t 140 #[.bool true, .pointer none] := h
  obtain ⟨W1, hW1⟩ : ∃ W1, W1 = w.alloc (.cells #[.int .i64 0, .bool false, .slice none 0 0] 64) := ⟨_, rfl⟩
  have hb1 : Below w.heap.size w W1 := by rw [hW1]; exact (Below.refl _ _).alloc (Nat.le_refl _) _
  have k1 : Blk W1 w.heap.size 64 #[.int .i64 0, .bool false, .slice none 0 0] := by rw [hW1]; exact Blk.new _ _ _
  have g1 := h'.below hb1 h'.lt
  have q1 : W1.cell? ⟨t, 1, none⟩ = some (.pointer none) := g1.cell 1
  have r0 : W1.cell? ⟨w.heap.size, 0, none⟩ = some (.int .i64 0) := k1.cell 0
  have r1 : W1.cell? ⟨w.heap.size, 1, none⟩ = some (.bool false) := k1.cell 1
  have r2 : W1.cell? ⟨w.heap.size, 2, none⟩ = some (.slice none 0 0) := k1.cell 2
  have f0 := k1.frozen 0
  have f1 := k1.frozen 1
  have f2 := k1.frozen 2
  have K1 := Lib.hid k1
  have HB1 := Lib.hid hb1
  clear h h' hb1 k1 g1
  have HWW := Lib.hid hW1
  rw [hW1] at q1 r0 r1 r2 f0 f1 f2
  clear hW1
  unfold planV
  go_enter Tryz.func85, Tryz.ntmps85
  go_wp2_with fail
  rw [← HWW.out]
  have e0 : W1.cell? ⟨w.heap.size, 0, none⟩ = some (.int .i64 0) := K1.out.cell 0
  have e1 : W1.cell? ⟨w.heap.size, 1, none⟩ = some (.bool false) := K1.out.cell 1
  have e2 : W1.cell? ⟨w.heap.size, 2, none⟩ = some (.slice none 0 0) := K1.out.cell 2
  refine bodyPost_ret (v := .tuple #[.agg #[.int .i64 0, .bool false, .slice none 0 0], .bool false]) (by simp [results, Tryz.f85, go_sem, e0, e1, e2]) rfl ?_
  exact ⟨rfl, HB1.out⟩
set_option maxRecDepth 100000 in
set_option maxHeartbeats 2000000 in
theorem timer_plan_some {p : PlanD} (h : IsTimer w t pb kb (some p)) (hk : p.keep.length ≤ 65536) :
    Calls Tryz.prog 85 #[.pointer (some ⟨t, 0, none⟩)] w fun e w' => ∃ A c, e = .returned (.tuple #[planV p.at_ p.dn A p.keep.length c, .bool true]) ∧ w'.ownsRow w.heap.size 3 1 (.slice A p.keep.length c) p.keep.length (ints p.keep) ∧ Below w.heap.size w w' := by
  obtain ⟨at_, dn, keep⟩ := p
  dsimp only at hk ⊢
  obtain ⟨h1, h2, A, n, c, h3, h4, h5, h6, h7⟩ := h
  dsimp only at h3 h4
  have hn : n = keep.length := by have := h4.1; rw [ints_length] at this; omega
  subst hn
  obtain ⟨A0, c0, e0, _, hcm, hrd⟩ := own_slice h4
  injection e0 with e1 e2 e3
  subst e1 e3
  obtain ⟨W1, hW1⟩ : ∃ W1, W1 = w.alloc (.cells #[.int .i64 0, .bool false, .slice none 0 0] 64) := ⟨_, rfl⟩
  have hb1 : Below w.heap.size w W1 := by rw [hW1]; exact (Below.refl _ _).alloc (Nat.le_refl _) _
  have k1 : Blk W1 w.heap.size 64 #[.int .i64 0, .bool false, .slice none 0 0] := by rw [hW1]; exact Blk.new _ _ _
  have g1 := h1.below hb1 h1.lt
  have g3 := h3.below hb1 h3.lt
  have q1 : W1.cell? ⟨t, 1, none⟩ = some (.pointer (some ⟨pb, 0, none⟩)) := g1.cell 1
  have p0 : W1.cell? ⟨pb, 0, none⟩ = some (.int .i64 at_) := g3.cell 0
  have p1 : W1.cell? ⟨pb, 1, none⟩ = some (.bool dn) := g3.cell 1
  have p2 : W1.cell? ⟨pb, 2, none⟩ = some (.slice A keep.length c) := g3.cell 2
  have HC := Lib.hid (clone_plan at_ dn A keep.length c keep W1 ((hrd.below hb1).more hb1.size) hk (own_nil_cap h4))
  have K1 := Lib.hid k1
  have HB1 := Lib.hid hb1
  have HWW := Lib.hid hW1
  rw [hW1] at q1 p0 p1 p2
  obtain ⟨m, hm⟩ : ∃ m, keep.length = m := ⟨_, rfl⟩
  rw [hm] at p2 HC ⊢
  unfold maxLen at hcm
  clear h1 h2 h3 h4 h5 h6 h7 hb1 k1 g1 g3 hrd hW1 hm hk
  unfold planV at HC ⊢
  go_enter Tryz.func85, Tryz.ntmps85
  go_wp2_with fail
  rw [← HWW.out]
  refine HC.out.mono ?_
  rintro e w2 ⟨A2, c2, rfl, ho, hb⟩
  have m1 := K1.out.below hb K1.out.lt
  have r0 : w2.cell? ⟨w.heap.size, 0, none⟩ = some (.int .i64 0) := m1.cell 0
  have r1 : w2.cell? ⟨w.heap.size, 1, none⟩ = some (.bool false) := m1.cell 1
  have r2 : w2.cell? ⟨w.heap.size, 2, none⟩ = some (.slice none 0 0) := m1.cell 2
  have f0 := m1.frozen 0
  have f1 := m1.frozen 1
  have f2 := m1.frozen 2
  have HO := Lib.hid ho
  have HB2 := Lib.hid hb
  have M1 := Lib.hid m1
  clear ho hb m1
  go_wp2_with fail
  obtain ⟨W5, hW5⟩ : ∃ W5, W5 = ((w2.setCell ⟨w.heap.size, 0, none⟩ (.int .i64 at_)).setCell ⟨w.heap.size, 1, none⟩ (.bool dn)).setCell ⟨w.heap.size, 2, none⟩ (.slice A2 m c2) := ⟨_, rfl⟩
  have hk : Blk W5 w.heap.size 64 #[.int .i64 at_, .bool dn, .slice A2 m c2] := by
    rw [hW5]
    exact ((M1.out.set_ 0 (.int .i64 at_)).set_ 1 (.bool dn)).set_ 2 (.slice A2 m c2)
  have hch : Chg (fun k => k = w.heap.size) w2 W5 := by
    rw [hW5]
    exact (((Chg.refl (fun k => k = w.heap.size) w2).setCell (p := ⟨w.heap.size, 0, none⟩) (.inl rfl) _).setCell (p := ⟨w.heap.size, 1, none⟩) (.inl rfl) _).setCell (p := ⟨w.heap.size, 2, none⟩) (.inl rfl) _
  rw [← hW5]
  have e0 : W5.cell? ⟨w.heap.size, 0, none⟩ = some (.int .i64 at_) := hk.cell 0
  have e1 : W5.cell? ⟨w.heap.size, 1, none⟩ = some (.bool dn) := hk.cell 1
  have e2 : W5.cell? ⟨w.heap.size, 2, none⟩ = some (.slice A2 m c2) := hk.cell 2
  refine bodyPost_ret (v := .tuple #[.agg #[.int .i64 at_, .bool dn, .slice A2 m c2], .bool true]) (by simp [results, Tryz.f85, go_sem, e0, e1, e2]) rfl ?_
  have hlt := K1.out.lt
  refine ⟨A2, c2, rfl, own_base (own_chg HO.out hch (fun k hk hF => ?_)) (fun k hk => ?_), (HB1.out.trans (HB2.out.mono HB1.out.size)).trans (hch.below (Nat.le_trans HB1.out.size HB2.out.size) (fun k hk => by have e : k = w.heap.size := hk; omega))⟩
  · have := (HO.out.lt k hk).1
    have e : k = w.heap.size := hF
    omega
  · have := (HO.out.lt k hk).1
    have := HB1.out.size
    omega
end
end Go.Proofs.YtnopljanpjmbgaaGreat
namespace Go.Proofs.YtnopljanpjmbgaaGreat
open Go.RowKit
set_option linter.unusedVariables false
theorem Reads.chgA {F : Nat → Prop} {w w' : World} {B n : Nat} {A : Option Addr} {xs : List Value} (h : Reads w B 1 A n xs) (hc : Chg F w w') (hB : B ≤ w.heap.size) (hF : ∀ ad, A = some ad → 0 < n → ¬ F ad.block) : Reads w' B 1 A n xs :=
  ⟨h.1, fun hn => by
    obtain ⟨ad, e, hb, hc'⟩ := h.2 hn
    exact ⟨ad, e, hb, fun j u hu => (World.cell?_of_block (by rw [block_of_add]; exact hc.block _ (by omega) (hF ad e hn))).trans (hc' j u hu)⟩⟩
def armP (at_ : Int) (dn : Bool) (keep : List Int) : Option PlanD := if 0 < at_ then some ⟨at_, dn, keep⟩ else none
section
variable {w w' : World} {t pb : Nat} {kb : Option Nat} {P : Option PlanD}
theorem IsTimer.blk (h : IsTimer w t pb kb P) : ∃ v, Blk w t 140 #[.bool true, .pointer v] := by
  cases P with
  | none => exact ⟨_, h⟩
  | some p => exact ⟨_, h.1⟩
theorem tmfoot_own : tmfoot t pb kb P t := by
  cases P with
  | none => exact rfl
  | some p => exact .inl rfl
/-- What Arm leaves. -/
def ArmQ (t pb : Nat) (kb : Option Nat) (P : Option PlanD) (at_ : Int) (dn : Bool) (keep : List Int) (w : World) (e : Ending) (w' : World) : Prop :=
  (¬ okPlan at_ keep ∧ e = .returned (.int .i64 2) ∧ Below w.heap.size w w') ∨
    (okPlan at_ keep ∧ e = .returned (.int .i64 0) ∧ ∃ pb' kb', IsTimer w' t pb' kb' (armP at_ dn keep) ∧ Chg (fun k => k = t) w w' ∧ ∀ k, tmfoot t pb' kb' (armP at_ dn keep) k → k = t ∨ w.heap.size ≤ k)
set_option maxRecDepth 100000 in
set_option maxHeartbeats 2000000 in
theorem timer_arm (h : IsTimer w t pb kb P) (at_ : Int) (dn : Bool) (A : Option Addr) (n c : Nat) (keep : List Int) (hr : Reads w w.heap.size 1 A n (ints keep)) (hn : n ≤ c) (hc : c ≤ maxLen) (hz : A = none → c = 0) (hA : ∀ ad, A = some ad → 0 < n → ad.block ≠ t) (hat : -9223372036854775808 ≤ at_ ∧ at_ ≤ 9223372036854775807) :
    Calls Tryz.prog 72 #[.pointer (some ⟨t, 0, none⟩), planV at_ dn A n c] w (ArmQ t pb kb P at_ dn keep w) := by
  obtain ⟨v, hv⟩ := h.blk
  have hlen : keep.length = n := by have := hr.1; rw [ints_length] at this; omega
  obtain ⟨W1, hW1⟩ : ∃ W1, W1 = w.alloc (.cells #[.int .i64 at_, .bool dn, .slice A n c] 64) := ⟨_, rfl⟩
  have hb1 : Below w.heap.size w W1 := by rw [hW1]; exact (Below.refl _ _).alloc (Nat.le_refl _) _
  have hs1 : W1.heap.size = w.heap.size + 1 := by rw [hW1]; simp
  have k1 : Blk W1 w.heap.size 64 #[.int .i64 at_, .bool dn, .slice A n c] := by rw [hW1]; exact Blk.new _ _ _
  have g1 := hv.below hb1 hv.lt
  have q0 : W1.cell? ⟨t, 0, none⟩ = some (.bool true) := g1.cell 0
  have p0 : W1.cell? ⟨w.heap.size, 0, none⟩ = some (.int .i64 at_) := k1.cell 0
  have p1 : W1.cell? ⟨w.heap.size, 1, none⟩ = some (.bool dn) := k1.cell 1
  have p2 : W1.cell? ⟨w.heap.size, 2, none⟩ = some (.slice A n c) := k1.cell 2
  have HCK := Lib.hid (check_plan at_ dn A n c keep W1 ((hr.below hb1).more hb1.size) hn hc hat)
  have HR1 := Lib.hid (hr.below hb1)
  have hne : t ≠ w.heap.size := by have := hv.lt; omega
  have HNE := Lib.hid hne
  have HA := Lib.hid hA
  have K1 := Lib.hid k1
  have G1 := Lib.hid g1
  have HB1 := Lib.hid hb1
  have HS1 := Lib.hid hs1
  have HLEN := Lib.hid hlen
  have HZ := Lib.hid hz
  obtain ⟨ce, hce⟩ : ∃ ce : Int, (if okPlan at_ keep then 0 else 2) = ce := ⟨_, rfl⟩
  have HCE : Hid ((okPlan at_ keep ∧ ce = 0) ∨ (¬ okPlan at_ keep ∧ ce = 2)) := by
    show _ ∨ _
    by_cases e : okPlan at_ keep
    · exact .inl ⟨e, by rw [← hce, if_pos e]⟩
    · exact .inr ⟨e, by rw [← hce, if_neg e]⟩
  rw [hce] at HCK
  have HWW := Lib.hid hW1
  rw [hW1] at q0 p0 p1 p2
  clear hW1
  clear h hv hlen hb1 hs1 k1 g1 hr hne hz hce hA
  unfold planV at HCK ⊢
  go_enter Tryz.func72, Tryz.ntmps72
  go_wp2_with fail
  rw [← HWW.out]
  refine HCK.out.mono ?_
  rintro e w2 ⟨rfl, hb⟩
  have m0 := G1.out.below hb G1.out.lt
  have m1 := K1.out.below hb K1.out.lt
  have hbw : Below w.heap.size w w2 := HB1.out.trans (hb.mono HB1.out.size)
  have HBW := Lib.hid hbw
  have HR2 := Lib.hid (HR1.out.below (hb.mono HB1.out.size))
  have HS2 : Hid (w.heap.size + 1 ≤ w2.heap.size) := by show _ ≤ _; have := hb.size; have := HS1.out; omega
  rcases HCE.out with ⟨hok, rfl⟩ | ⟨hno, rfl⟩
  · have hat1 : 0 ≤ at_ := hok.1.1
    have HOK := Lib.hid hok
    have f1 : w2.frozen? ⟨t, 1, none⟩ = false := m0.frozen 1
    have c1 : w2.cell? ⟨t, 1, none⟩ = some (.pointer v) := m0.cell 1
    obtain ⟨W3, hW3⟩ : ∃ W3, W3 = w2.setCell ⟨t, 1, none⟩ (.pointer none) := ⟨_, rfl⟩
    have n0 : Blk W3 t 140 #[.bool true, .pointer none] := by rw [hW3]; exact m0.set_ 1 (.pointer none)
    have n1 : Blk W3 w.heap.size 64 #[.int .i64 at_, .bool dn, .slice A n c] := by rw [hW3]; exact m1.far (p := ⟨t, 1, none⟩) (by show w.heap.size ≠ t; exact fun e => HNE.out e.symm) _
    have hc3 : Chg (fun k => k = t) w2 W3 := by rw [hW3]; exact (Chg.refl (fun k => k = t) w2).setCell (p := ⟨t, 1, none⟩) (.inl rfl) _
    have hC3 : Chg (fun k => k = t) w W3 := (Chg.of_below (F := fun k => k = t) HBW.out).trans hc3 (fun k _ hk => hk)
    have r0 : W3.cell? ⟨w.heap.size, 0, none⟩ = some (.int .i64 at_) := n1.cell 0
    have r1 : W3.cell? ⟨w.heap.size, 1, none⟩ = some (.bool dn) := n1.cell 1
    have r2 : W3.cell? ⟨w.heap.size, 2, none⟩ = some (.slice A n c) := n1.cell 2
    have N0 := Lib.hid n0
    have N1 := Lib.hid n1
    have HC3 := Lib.hid hC3
    have HSZ3 : Hid (W3.heap.size = w2.heap.size) := by show _ = _; rw [hW3]; simp
    have HR3 : Hid (Reads W3 W3.heap.size 1 A n (ints keep)) := (HR2.out.chgA hc3 HBW.out.size (fun ad e hn0 => HA.out ad e hn0)).more (by rw [HSZ3.out]; exact HBW.out.size)
    have hn34 : n ≤ 65536 := by have := hok.2.1.2; have := HLEN.out; omega
    have HCL := Lib.hid (clone_plan at_ dn A n c keep W3 HR3.out hn34 HZ.out)
    unfold planV at HCL
    have HWW3 := Lib.hid hW3
    rw [hW3] at r0 r1 r2
    clear hW3
    clear hb m0 m1 hbw hc3 hC3 n0 n1 hok hn34
    by_cases hpos : 0 < at_
    · go_wp2_with fail
      rw [← HWW3.out]
      refine HCL.out.mono ?_
      rintro e w4 ⟨A4, c4, rfl, ho4, hb4⟩
      have n0' := N0.out.below hb4 N0.out.lt
      have n1' := N1.out.below hb4 N1.out.lt
      have u0 := n1'.frozen 0
      have u1 := n1'.frozen 1
      have u2 := n1'.frozen 2
      have u3 := n0'.frozen 1
      have v0 : w4.cell? ⟨w.heap.size, 0, none⟩ = some (.int .i64 at_) := n1'.cell 0
      have v1 : w4.cell? ⟨w.heap.size, 1, none⟩ = some (.bool dn) := n1'.cell 1
      have v2 : w4.cell? ⟨w.heap.size, 2, none⟩ = some (.slice A n c) := n1'.cell 2
      have M0 := Lib.hid n0'
      have M1 := Lib.hid n1'
      have HO4 := Lib.hid ho4
      have HB4 := Lib.hid hb4
      have hnt : t ≠ (⟨w.heap.size, 0, none⟩ : Addr).block := HNE.out
      have hnt1 : t ≠ (⟨w.heap.size, 1, none⟩ : Addr).block := HNE.out
      have x2 : ((w4.setCell ⟨w.heap.size, 0, none⟩ (.int .i64 at_)).setCell ⟨w.heap.size, 1, none⟩ (.bool dn)).cell? ⟨t, 1, none⟩ = some (.pointer none) := ((n0'.far hnt _).far hnt1 _).cell 1
      clear f1 c1 ho4 hb4 n0' n1' hnt hnt1
      go_wp2_with fail
      obtain ⟨W5, hW5⟩ : ∃ W5, W5 = ((w4.setCell ⟨w.heap.size, 0, none⟩ (.int .i64 at_)).setCell ⟨w.heap.size, 1, none⟩ (.bool dn)).setCell ⟨w.heap.size, 2, none⟩ (.slice A4 n c4) := ⟨_, rfl⟩
      have hk : Blk W5 w.heap.size 64 #[.int .i64 at_, .bool dn, .slice A4 n c4] := by
        rw [hW5]
        exact ((M1.out.set_ 0 (.int .i64 at_)).set_ 1 (.bool dn)).set_ 2 (.slice A4 n c4)
      have hch : Chg (fun k => k = w.heap.size) w4 W5 := by
        rw [hW5]
        exact (((Chg.refl (fun k => k = w.heap.size) w4).setCell (p := ⟨w.heap.size, 0, none⟩) (.inl rfl) _).setCell (p := ⟨w.heap.size, 1, none⟩) (.inl rfl) _).setCell (p := ⟨w.heap.size, 2, none⟩) (.inl rfl) _
      rw [← hW5]
      have hne := HNE.out
      have hbw := HBW.out.size
      have hs2 := HS2.out
      have hsz3 := HSZ3.out
      have hT : Blk (W5.setCell ⟨t, 1, none⟩ (.pointer (some ⟨w.heap.size, 0, none⟩))) t 140 #[.bool true, .pointer (some ⟨w.heap.size, 0, none⟩)] := (M0.out.chg hch hne).set_ 1 _
      have hK : Blk (W5.setCell ⟨t, 1, none⟩ (.pointer (some ⟨w.heap.size, 0, none⟩))) w.heap.size 64 #[.int .i64 at_, .bool dn, .slice A4 n c4] := hk.far (p := ⟨t, 1, none⟩) (fun e => hne e.symm) _
      have hch2 : Chg (fun k => k = w.heap.size ∨ k = t) w4 (W5.setCell ⟨t, 1, none⟩ (.pointer (some ⟨w.heap.size, 0, none⟩))) := (hch.mono (fun k _ hk => .inl hk)).setCell (p := ⟨t, 1, none⟩) (.inl (.inr rfl)) _
      have hltt := M0.out.lt
      have hN0 := N0.out.lt
      have hO : (W5.setCell ⟨t, 1, none⟩ (.pointer (some ⟨w.heap.size, 0, none⟩))).ownsRow 0 3 1 (.slice A4 n c4) n (ints keep) := own_base (own_chg HO4.out hch2 (fun k hk hF => by
        have := (HO4.out.lt k hk).1
        omega)) (fun k hk => by omega)
      go_ret
      refine .inr ⟨HOK.out, rfl, w.heap.size, (Value.slice A4 n c4).ownBlock, ?_, ?_, ?_⟩
      · unfold armP
        rw [if_pos hpos]
        refine ⟨hT, fun e => hne e.symm, A4, n, c4, hK, hO, rfl, fun e => ?_, fun e => ?_⟩
        · have := (HO4.out.lt _ e).1; omega
        · have := (HO4.out.lt _ e).1; omega
      · exact (HC3.out.trans (Chg.of_below (F := fun k => k = t) HB4.out) (fun k _ hk => hk)).trans hch2 (fun k hk2 hk => by
          rcases hk with e | e
          · omega
          · exact e)
      · unfold armP
        rw [if_pos hpos]
        rintro k (rfl | rfl | hk)
        · exact .inl rfl
        · exact .inr (Nat.le_refl _)
        · have := (HO4.out.lt _ hk).1
          exact .inr (by omega)
    · go_wp2_with fail
      rw [← HWW3.out]
      go_ret
      refine .inr ⟨HOK.out, rfl, w.heap.size, none, ?_, HC3.out, ?_⟩
      · unfold armP
        rw [if_neg (Int.not_lt.2 hpos)]
        exact N0.out
      · unfold armP
        rw [if_neg (Int.not_lt.2 hpos)]
        exact fun k hk => .inl hk
  · clear hb m0 m1 hbw
    go_wp2_with fail
    go_ret
    exact .inl ⟨hno, rfl, HBW.out⟩
/-- What is always so of a timer's plan. -/
def OkP (P : Option PlanD) : Prop := ∀ p, P = some p → okPlan p.at_ p.keep ∧ 1 ≤ p.at_
theorem OkP.none_ : OkP none := fun p h => by cases h
theorem OkP.arm {at_ : Int} {dn : Bool} {keep : List Int} (h : okPlan at_ keep) : OkP (armP at_ dn keep) := fun p hp => by
  unfold armP at hp
  split at hp
  · injection hp with hp
    subst hp
    exact ⟨h, by assumption⟩
  · cases hp
theorem OkP.tick (h : OkP P) : OkP (tickP P) := fun p hp => by
  cases P with
  | none => cases hp
  | some q =>
    obtain ⟨h1, h2⟩ := h q rfl
    unfold tickP at hp
    dsimp only [Option.bind] at hp
    split at hp
    · injection hp with hp
      subst hp
      obtain ⟨⟨h3, h4⟩, h5, h6⟩ := h1
      dsimp only
      exact ⟨⟨⟨by omega, by omega⟩, h5, h6⟩, by omega⟩
    · cases hp
end
end Go.Proofs.YtnopljanpjmbgaaGreat

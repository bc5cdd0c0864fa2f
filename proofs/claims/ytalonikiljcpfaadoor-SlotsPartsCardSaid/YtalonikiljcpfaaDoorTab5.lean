/-
  A new table, and a table's copy. Conditions: the numbers are allowed; the table is as New makes it.
-/
import Derived.Test.YtalonikiljcpfaaDoorTab4
namespace Go.Proofs.YtalonikiljcpfaaDoor
open Go.RowKit
set_option linter.unusedVariables false
def updN (f : Nat → Nat) (i x : Nat) : Nat → Nat := fun j => if j = i then x else f j
theorem updN_same (f : Nat → Nat) (i x : Nat) : updN f i x i = x := by simp [updN]
theorem updN_other (f : Nat → Nat) {i j : Nat} (x : Nat) (h : j ≠ i) : updN f i x j = f j := by simp [updN, h]
def pv (old : Nat → Value) (p : Nat → Nat) (j s : Nat) : Value := if s < j then ptrV (p s) else old s
/-- A table whose first j sets are laid. -/
structure Half (w wr : World) (g n r : Nat) (old : Nat → Value) (L : Nat → List Bool) (p : Nat → Nat) (j : Nat) : Prop where
  blk : Blk wr g 68 #[.int .i64 (n : Int), .int .i64 (r : Int), pv old p j 0, pv old p j 1, pv old p j 2, pv old p j 3, pv old p j 4]
  set : ∀ s, s < j → HasSet wr (p s) (L s)
  low : ∀ s, s < j → g < p s
  apart : ∀ s t, s < j → t < j → s ≠ t → p s ≠ p t
  base : w.heap.size ≤ g
  bel : Below w.heap.size w wr
section
variable {w w' wr w1 : World} {g n r : Nat} {old : Nat → Value} {L : Nat → List Bool} {p : Nat → Nat} {j : Nat} {T : List Nat}
theorem Half.push (h : Half w wr g n r old L p j) (hj : j < 5) (hb : Below wr.heap.size wr w1) {b : Nat} (hs : HasSet w1 b (L j)) (hl : wr.heap.size ≤ b) :
    Half w (w1.setCell ⟨g, 2 + j, none⟩ (ptrV b)) g n r old L (updN p j b) (j + 1) := by
  have hgl := h.blk.lt
  have hF : ∀ k, k ≠ g → ¬ (fun k => k = g) k := fun k hk e => hk e
  have hc : Chg (fun k => k = g) w1 (w1.setCell ⟨g, 2 + j, none⟩ (ptrV b)) := (Chg.refl (fun k => k = g) w1).setCell (p := ⟨g, 2 + j, none⟩) (.inl rfl) _
  refine ⟨?_, fun s hs' => ?_, fun s hs' => ?_, fun s t hs' ht hne => ?_, h.base, (h.bel.trans (hb.mono h.bel.size)).setCell (p := ⟨g, 2 + j, none⟩) h.base _⟩
  · have := (h.blk.below hb hgl).set_ (2 + j) (ptrV b)
    have e : j = 0 ∨ j = 1 ∨ j = 2 ∨ j = 3 ∨ j = 4 := by omega
    rcases e with rfl | rfl | rfl | rfl | rfl
    all_goals
      simp [pv, updN] at this ⊢
      exact this
  · by_cases e : s = j
    · subst e
      rw [updN_same]
      exact hs.keep hc (fun e => by have e' : b = g := e; omega)
    · rw [updN_other _ _ e]
      have hlw := h.low s (by omega)
      exact ((h.set s (by omega)).below hb (h.set s (by omega)).lt).keep hc (fun e => by have e' : p s = g := e; omega)
  · by_cases e : s = j
    · subst e; rw [updN_same]; omega
    · rw [updN_other _ _ e]; exact h.low s (by omega)
  · by_cases e1 : s = j
    · subst e1
      rw [updN_same, updN_other _ _ (fun e => hne e.symm)]
      have := (h.set t (by omega)).lt
      omega
    · rw [updN_other _ _ e1]
      by_cases e2 : t = j
      · subst e2
        rw [updN_same]
        have := (h.set s (by omega)).lt
        omega
      · rw [updN_other _ _ e2]
        exact h.apart s t (by omega) (by omega) hne
theorem Half.cell (h : Half w wr g n r old L p j) (s : Nat) (hs : s < 5) (hb : Below wr.heap.size wr w1) : w1.cell? ⟨g, 2 + s, none⟩ = some (pv old p j s) ∧ w1.frozen? ⟨g, 2 + s, none⟩ = false := by
  have hk := h.blk.below hb h.blk.lt
  refine ⟨?_, hk.frozen _⟩
  have : s = 0 ∨ s = 1 ∨ s = 2 ∨ s = 3 ∨ s = 4 := by omega
  rcases this with rfl | rfl | rfl | rfl | rfl
  · exact hk.cell 2
  · exact hk.cell 3
  · exact hk.cell 4
  · exact hk.cell 5
  · exact hk.cell 6
theorem memb_zero (n s : Nat) (hs : s ≠ 0) : memb (List.replicate n 0) s = List.replicate n false := by
  unfold memb
  rw [List.map_replicate]
  have : decide (0 = s) = false := by simp; omega
  rw [this]
def fillTo (n j : Nat) : List Bool := (List.range n).map fun i => decide (i < j)
theorem fillTo_length (n j : Nat) : (fillTo n j).length = n := by simp [fillTo]
theorem fillTo_zero (n : Nat) : fillTo n 0 = List.replicate n false := by
  apply List.ext_getElem?
  intro i
  by_cases h : i < n <;> simp [fillTo, h]
theorem fillTo_all (n : Nat) : fillTo n n = memb (List.replicate n 0) 0 := by
  apply List.ext_getElem?
  intro i
  by_cases h : i < n <;> simp [fillTo, memb, h]
theorem fillTo_set {n j : Nat} (h : j < n) : (fillTo n j).set j true = fillTo n (j + 1) := by
  apply List.ext_getElem?
  intro i
  rw [List.getElem?_set]
  by_cases e : j = i
  · subst e
    simp [fillTo, h]
  · rw [if_neg e]
    by_cases h2 : i < n
    · simp [fillTo, h2]; omega
    · simp [fillTo, h2]
set_option maxRecDepth 100000 in
set_option maxHeartbeats 4000000 in
theorem tnew (n r : Nat) (w : World) (h1 : 1 ≤ n) (h2 : n ≤ 32) (hr : r ≤ n) :
    Calls Tryd.prog 21 #[.int .i64 (n : Int), .int .i64 (r : Int)] w fun e w' => ∃ g p, e = .returned (.tuple #[.pointer (some ⟨g, 0, none⟩), .int .i64 0]) ∧ IsTab w' g p r (List.replicate n 0) ∧ (∀ k, tfoot g p k → w.heap.size ≤ k) ∧ Below w.heap.size w w' := by
  have hr0 : ¬ ((r : Int) < 0) := by omega
  have hrn : ¬ ((n : Int) < (r : Int)) := by omega
  have HN := Lib.hid h1
  go_enter Tryd.func21, Tryd.ntmps21
  go_wp2_with fail
  go_loopg [30] 5 (fun q v30 wr => ∃ (j : Nat) (p : Nat → Nat), j + q = 5 ∧ v30 = .int .i64 j ∧ Half w wr w.heap.size n r (fun _ => .pointer none) (fun _ => List.replicate n false) p j)
  case atStart => exact ⟨0, fun _ => 0, by omega, rfl, ⟨Blk.new _ _ _, fun s hs => by omega, fun s hs => by omega, fun s t hs => by omega, Nat.le_refl _, (Below.refl _ _).alloc (Nat.le_refl _) _⟩⟩
  case round =>
    obtain ⟨j, p, hj, rfl, hs⟩ := hrel
    have HJ := Lib.hid hj
    have hj' : j ≤ 5 := by omega
    have HS := Lib.hid hs
    by_cases hlt : j < 5
    · clear hj hs
      go_wp2_with fail
      refine (new_set n wr (by omega) (by omega)).mono ?_
      rintro e w1 ⟨rfl, hs1, hb1⟩
      have HS1 := Lib.hid hs1
      have HB1 := Lib.hid hb1
      obtain ⟨q1, f1⟩ := HS.out.cell j hlt hb1
      clear hs1 hb1
      go_wp2_with fail
      go_roundg (gk - 1)
      case measure => have := HJ.out; omega
      case rel => exact ⟨j + 1, _, by have := HJ.out; omega, by go_num, HS.out.push hlt HB1.out HS1.out (Nat.le_refl _)⟩
    · have e8 : j = 5 := by omega
      subst e8
      obtain ⟨k1, k2, k3, k4, k5, k6⟩ := hs
      clear hj
      simp only [pv] at k1
      have HK := Lib.hid (And.intro k1 (And.intro k2 (And.intro k3 (And.intro k4 k6))))
      clear k1 k2 k3 k4 k5 k6
      go_wp2_with fail
      obtain ⟨g, hg⟩ : ∃ g, g = w.heap.size := ⟨_, rfl⟩
      rw [← hg]
      have HG := Lib.hid hg
      clear hg
      go_loopg [49] n (fun q v49 wr' => ∃ (i : Nat), i + q = n ∧ v49 = .int .i64 i ∧ Blk wr' g 68 #[.int .i64 (n : Int), .int .i64 (r : Int), ptrV (p 0), ptrV (p 1), ptrV (p 2), ptrV (p 3), ptrV (p 4)] ∧ HasSet wr' (p 0) (fillTo n i) ∧ (∀ s, s < 5 → s ≠ 0 → HasSet wr' (p s) (List.replicate n false)) ∧ Below w.heap.size w wr')
      case atStart =>
        obtain ⟨k1, k2, k3, k4, k6⟩ := HK.out
        exact ⟨0, by omega, rfl, by rw [HG.out]; exact k1, by rw [fillTo_zero]; exact k2 0 (by omega), fun s hs _ => k2 s hs, k6⟩
      case round =>
        obtain ⟨i, hj, rfl, b1, b2, b3, b4⟩ := hrel
        have HJ' := Lib.hid hj
        have hj2 : i ≤ n := by omega
        have HB := Lib.hid (And.intro b1 (And.intro b2 (And.intro b3 b4)))
        by_cases hlt2 : i < n
        · have q0 : wr.cell? ⟨g, 2, none⟩ = some (.pointer (some ⟨p 0, 0, none⟩)) := b1.cell 2
          have HA := Lib.hid (add_of b2 i (by rw [fillTo_length]; exact hlt2))
          clear hj b1 b2 b3 b4
          go_wp2_with fail
          refine HA.out.mono ?_
          rintro e w1 ⟨rfl, hs1, hc1⟩
          have HS1 := Lib.hid hs1
          have HC1 := Lib.hid hc1
          clear hs1 hc1 q0
          go_wp2_with fail
          go_roundg (gk - 1)
          case measure => have := HJ'.out; omega
          case rel =>
            obtain ⟨b1, b2, b3, b4⟩ := HB.out
            obtain ⟨k1, k2, k3, k4, k6⟩ := HK.out
            have hp0 := k3 0 (by omega)
            have hg := HG.out
            refine ⟨i + 1, by have := HJ'.out; omega, by go_num, b1.chg HC1.out (fun e => by have e' : g = p 0 := e; omega), by rw [← fillTo_set hlt2]; exact HS1.out, fun s hs hs0 => (b3 s hs hs0).keep HC1.out (k4 s 0 hs (by omega) hs0), b4.trans (HC1.out.below b4.size (fun k hk => by have e' : k = p 0 := hk; omega))⟩
        · have e8 : i = n := by omega
          subst e8
          clear hj b1 b2 b3 b4
          go_wp2_with fail
          go_ret2
          obtain ⟨b1, b2, b3, b4⟩ := HB.out
          obtain ⟨k1, k2, k3, k4, k6⟩ := HK.out
          have hg := HG.out
          refine ⟨g, p, rfl, ⟨by rw [List.length_replicate]; exact b1, fun s hs => ?_, fun s hs e => by have := k3 s hs; omega, k4, by rw [List.length_replicate]; exact HN.out, by rw [List.length_replicate]; omega, by rw [List.length_replicate]; omega, fun x hx => by rw [List.eq_of_mem_replicate hx]; omega⟩, fun k hk => ?_, b4⟩
          · by_cases e : s = 0
            · subst e; rw [← fillTo_all]; exact b2
            · rw [memb_zero i s e]; exact b3 s hs e
          · rcases hk with rfl | ⟨s, hs, rfl⟩
            · omega
            · have := k3 s hs; omega
theorem tnew_bad (n r : Int) (w : World) (h : n < 1 ∨ 32 < n ∨ r < 0 ∨ n < r) :
    Calls Tryd.prog 21 #[.int .i64 n, .int .i64 r] w fun e w' => e = .returned (.tuple #[.pointer none, .int .i64 2]) ∧ w = w' := by
  by_cases h1 : n < 1
  · clear h
    go_enter Tryd.func21, Tryd.ntmps21
    go_wp2_with fail
    go_ret2
    exact ⟨rfl, rfl⟩
  by_cases h2 : 32 < n
  · clear h
    go_enter Tryd.func21, Tryd.ntmps21
    go_wp2_with fail
    go_ret2
    exact ⟨rfl, rfl⟩
  by_cases h3 : r < 0
  · clear h
    go_enter Tryd.func21, Tryd.ntmps21
    go_wp2_with fail
    go_ret2
    exact ⟨rfl, rfl⟩
  have h4 : n < r := by omega
  clear h
  go_enter Tryd.func21, Tryd.ntmps21
  go_wp2_with fail
  go_ret2
  exact ⟨rfl, rfl⟩
set_option maxRecDepth 100000 in
set_option maxHeartbeats 4000000 in
theorem tcopy {g r : Nat} {p : Nat → Nat} (h : IsTab w g p r T) :
    Calls Tryd.prog 24 #[.pointer (some ⟨g, 0, none⟩)] w fun e w' => ∃ g' p', e = .returned (.pointer (some ⟨g', 0, none⟩)) ∧ IsTab w' g' p' r T ∧ (∀ k, tfoot g' p' k → w.heap.size ≤ k) ∧ Below w.heap.size w w' := by
  have HV := Lib.hid (tvalid h)
  have HS := Lib.hid (h.set)
  have H := Lib.hid h
  have c0 : w.cell? ⟨g, 0, none⟩ = some (.int .i64 (T.length : Int)) := h.cell0
  have c1 := h.cell1
  have p0 : w.cell? ⟨g, 2, none⟩ = some (.pointer (some ⟨p 0, 0, none⟩)) := h.cellP 0 (by omega)
  have p1 : w.cell? ⟨g, 3, none⟩ = some (.pointer (some ⟨p 1, 0, none⟩)) := h.cellP 1 (by omega)
  have p2 : w.cell? ⟨g, 4, none⟩ = some (.pointer (some ⟨p 2, 0, none⟩)) := h.cellP 2 (by omega)
  have p3 : w.cell? ⟨g, 5, none⟩ = some (.pointer (some ⟨p 3, 0, none⟩)) := h.cellP 3 (by omega)
  have p4 : w.cell? ⟨g, 6, none⟩ = some (.pointer (some ⟨p 4, 0, none⟩)) := h.cellP 4 (by omega)
  have hgl := h.blk.lt
  obtain ⟨n, hn⟩ : ∃ n, T.length = n := ⟨_, rfl⟩
  have HN := Lib.hid hn
  rw [hn] at c0
  clear h hn
  go_enter Tryd.func24, Tryd.ntmps24
  go_wp2_with fail
  refine HV.out.mono ?_
  rintro e w' ⟨rfl, rfl⟩
  go_wp2_with fail
  go_loopg [16] 5 (fun q v16 wr => ∃ (j : Nat) (p' : Nat → Nat), j + q = 5 ∧ v16 = .int .i64 j ∧ Half w wr w.heap.size n r (fun s => ptrV (p s)) (memb T) p' j)
  case atStart => exact ⟨0, fun _ => 0, by omega, rfl, ⟨Blk.new _ _ _, fun s hs => by omega, fun s hs => by omega, fun s t hs => by omega, Nat.le_refl _, (Below.refl _ _).alloc (Nat.le_refl _) _⟩⟩
  case round =>
    obtain ⟨j, p', hj, rfl, hs⟩ := hrel
    have HJ := Lib.hid hj
    have hj' : j ≤ 5 := by omega
    have HH := Lib.hid hs
    by_cases hlt : j < 5
    · have hix := ix_sets p j hlt
      have HC := Lib.hid (copy_of ((HS.out j hlt).below hs.bel (HS.out j hlt).lt))
      clear hj hs
      go_wp2_with fail
      refine HC.out.mono ?_
      rintro e w1 ⟨rfl, hs1, hb1⟩
      have HS1 := Lib.hid hs1
      have HB1 := Lib.hid hb1
      obtain ⟨q1, f1⟩ := HH.out.cell j hlt hb1
      clear hs1 hb1
      go_wp2_with fail
      go_roundg (gk - 1)
      case measure => have := HJ.out; omega
      case rel => exact ⟨j + 1, _, by have := HJ.out; omega, by go_num, HH.out.push hlt HB1.out HS1.out (Nat.le_refl _)⟩
    · have e8 : j = 5 := by omega
      subst e8
      clear hj hs
      go_wp2_with fail
      go_ret
      obtain ⟨k1, k2, k3, k4, k5, k6⟩ := HH.out
      simp only [pv] at k1
      obtain ⟨t1, t2, t3, t4, t5, t6, t7, t8⟩ := H.out
      refine ⟨w.heap.size, p', rfl, ⟨by rw [HN.out]; exact k1, k2, fun s hs e => by have := k3 s hs; omega, k4, t5, t6, t7, t8⟩, fun k hk => ?_, k6⟩
      rcases hk with rfl | ⟨s, hs, rfl⟩
      · omega
      · have := k3 s hs; omega
end
end Go.Proofs.YtalonikiljcpfaaDoor

/-
  A table's TakeActive and TakeOutput. Conditions: the table is as New makes it; the library's table holds what its text lists.
-/
import Derived.Test.YtalonikiljcpfaaDoorTab3
namespace Go.Proofs.YtalonikiljcpfaaDoor
open Go.RowKit
set_option linter.unusedVariables false
theorem slotsOf_mem {L : List Bool} {i : Nat} : i ∈ slotsOf L ↔ i < L.length ∧ inL L i = true := by
  unfold slotsOf
  simp [List.mem_filter, List.mem_range]
theorem slotsOf_sorted (L : List Bool) : (slotsOf L).Pairwise (· < ·) := List.Pairwise.filter _ List.pairwise_lt_range
theorem next_nil {L : List Bool} (h : slotsOf L = []) : NextIs L 0 0 false := by
  refine .inr ⟨rfl, rfl, fun i _ => ?_⟩
  cases e : inL L i with
  | false => rfl
  | true =>
    have : i ∈ slotsOf L := slotsOf_mem.2 ⟨inL_lt e, e⟩
    rw [h] at this
    cases this
theorem next_cons {L : List Bool} {v : Nat} {l : List Nat} (h : slotsOf L = v :: l) : NextIs L 0 v true := by
  have hv : v ∈ slotsOf L := by rw [h]; exact .head _
  have hs := slotsOf_sorted L
  rw [h] at hs
  refine .inl ⟨rfl, (slotsOf_mem.1 hv).2, by omega, fun i hi _ => ?_⟩
  cases e : inL L i with
  | false => rfl
  | true =>
    have : i ∈ slotsOf L := slotsOf_mem.2 ⟨inL_lt e, e⟩
    rw [h] at this
    rcases List.mem_cons.1 this with rfl | this
    · omega
    · have := (List.pairwise_cons.1 hs).1 i this; omega
/-- The least slot in a state. -/
def firstIn (T : List Nat) (s : Nat) : Nat := (slotsOf (memb T s)).headD 0
theorem next_firstIn (T : List Nat) (s : Nat) : NextIs (memb T s) 0 (firstIn T s) (decide (0 < cnt T s)) := by
  unfold firstIn cnt
  cases h : slotsOf (memb T s) with
  | nil => exact next_nil h
  | cons v l => exact next_cons h
theorem firstIn_lt {T : List Nat} {s : Nat} (h : 0 < cnt T s) : ∃ hi : firstIn T s < T.length, T[firstIn T s] = s := by
  unfold firstIn
  unfold cnt at h
  cases e : slotsOf (memb T s) with
  | nil => rw [e] at h; simp at h
  | cons v l =>
    have hv : v ∈ slotsOf (memb T s) := by rw [e]; exact .head _
    obtain ⟨h1, h2⟩ := slotsOf_mem.1 hv
    rw [memb_length] at h1
    rw [memb_at h1] at h2
    exact ⟨h1, of_decide_eq_true h2⟩
theorem cnt_le (T : List Nat) (s : Nat) : cnt T s ≤ T.length := by
  unfold cnt
  have := slotsOf_le (memb T s)
  rw [memb_length] at this
  exact this
section
variable {w w' w1 : World} {g : Nat} {p : Nat → Nat} {r : Nat} {T : List Nat}
set_option maxHeartbeats 1000000 in
theorem ttake (h : IsTab w g p r T) (ht : TabIn w) (s : Nat) (hs : s < 5) (hs0 : 0 ≠ s) (hc : 0 < cnt T 0) :
    Calls Tryd.prog 44 #[.pointer (some ⟨g, 0, none⟩), .int .i64 (s : Int)] w fun e w' => e = .returned (.int .i64 (firstIn T 0 : Int)) ∧ TabTo w w' g p r (T.set (firstIn T 0) s) := by
  have q0 := h.cellP 0 (by omega)
  have hN := next_firstIn T 0
  rw [decide_eq_true hc] at hN
  have HL := Lib.hid (lowest_of (h.set 0 (by omega)) ht _ _ hN)
  obtain ⟨hv, hv2⟩ := firstIn_lt hc
  have HM := Lib.hid (tmove h (firstIn T 0) hv 0 s hv2 hs hs0)
  obtain ⟨v, hv3⟩ : ∃ v, firstIn T 0 = v := ⟨_, rfl⟩
  rw [hv3] at HM HL ⊢
  clear h ht hN hv2 hv hv3 hc
  go_enter Tryd.func44, Tryd.ntmps44
  go_wp2_with fail
  refine HL.out.mono ?_
  rintro e w1 ⟨rfl, rfl⟩
  go_wp2_with fail
  refine HM.out.mono ?_
  rintro e w1 ⟨⟨v, rfl⟩, hs⟩
  have HS := Lib.hid hs
  clear hs
  go_wp2_with fail
  go_ret
  exact ⟨rfl, HS.out⟩
/-- What TakeActive and TakeOutput lead to. -/
def TakeR (w w' : World) (g : Nat) (p : Nat → Nat) (r : Nat) (T : List Nat) (s low err : Nat) (v : Nat) (c : Int) : Prop :=
  (0 < cnt T s ∧ c = 6 ∧ v = 0 ∧ TabTo w w' g p r T) ∨ (cnt T s = 0 ∧ cnt T 0 ≤ low ∧ c = err ∧ v = 0 ∧ TabTo w w' g p r T) ∨ (cnt T s = 0 ∧ low < cnt T 0 ∧ c = 0 ∧ v = firstIn T 0 ∧ TabTo w w' g p r (T.set (firstIn T 0) s))
set_option maxHeartbeats 2000000 in
theorem tactive (h : IsTab w g p r T) (ht : TabIn w) :
    Calls Tryd.prog 22 #[.pointer (some ⟨g, 0, none⟩)] w fun e w' => ∃ (v : Nat) (c : Int), e = .returned (.tuple #[.int .i64 (v : Int), .int .i64 c]) ∧ TakeR w w' g p r T 1 r 11 v c := by
  have HV := Lib.hid (tvalid h)
  have q1 := h.cellP 1 (by omega)
  have q2 := h.cell1
  have HL := Lib.hid (len_of (h.set 1 (by omega)))
  have H := Lib.hid h
  have HT := Lib.hid ht
  have hc1 := cnt_le T 1
  have hc0 := cnt_le T 0
  have hle := h.le
  have hrs := h.res
  have HF : Hid (Calls Tryd.prog 15 #[.pointer (some ⟨g, 0, none⟩)] w.drew fun e w' => e = .returned (.int .i64 (cnt T 0 : Int)) ∧ w.drew = w') := tfree h.drew
  obtain ⟨c1, hk1⟩ : ∃ c1, cnt T 1 = c1 := ⟨_, rfl⟩
  obtain ⟨c0, hk0⟩ : ∃ c0, cnt T 0 = c0 := ⟨_, rfl⟩
  have hk1' : (slotsOf (memb T 1)).length = c1 := hk1
  rw [hk1'] at HL
  rw [hk0] at HF hc0
  rw [hk1] at hc1
  have HK1 := Lib.hid hk1
  have HK0 := Lib.hid hk0
  clear h ht hk1 hk0 hk1'
  obtain ⟨n, hn⟩ : ∃ n, T.length = n := ⟨_, rfl⟩
  rw [hn] at hc0 hc1 hle hrs
  clear hn
  go_enter Tryd.func22, Tryd.ntmps22
  go_wp2_with fail
  refine HV.out.mono ?_
  rintro e w' ⟨rfl, rfl⟩
  go_wp2_with fail
  refine HL.out.mono ?_
  rintro e w' ⟨rfl, rfl⟩
  by_cases h1 : 0 < c1
  · go_wp2_with fail
    go_ret2
    exact ⟨0, 6, rfl, .inl ⟨by rw [HK1.out]; exact h1, rfl, rfl, TabTo.refl H.out (Below.refl _ _)⟩⟩
  · have h10 : c1 = 0 := by omega
    subst h10
    go_wp2_with fail
    go_region_held3 (fun X => X.cell? ⟨g, 1, none⟩ = some (.int .i64 (r : Int))) (first | assumption | go_keep)
      (first | (go_at_call 15; refine HF.out.mono ?_; rintro e w' ⟨rfl, rfl⟩))
    all_goals
      by_cases h2 : c0 ≤ r
      · go_wp2_with fail
        go_ret2
        exact ⟨0, 11, rfl, .inr (.inl ⟨HK1.out, by rw [HK0.out]; exact h2, rfl, rfl, TabTo.refl H.out ((Below.refl _ _).drew)⟩)⟩
      · have h3 : r < c0 := by omega
        go_wp2_with fail
        refine (ttake H.out.drew (HT.out.below (B := w.heap.size) ((Below.refl _ _).drew) HT.out.pos) 1 (by omega) (by omega) (by rw [HK0.out]; omega)).mono ?_
        rintro e w2 ⟨rfl, hs⟩
        have HS := Lib.hid hs
        clear hs
        go_wp2_with fail
        go_ret2
        exact ⟨_, 0, rfl, .inr (.inr ⟨HK1.out, by rw [HK0.out]; exact h3, rfl, rfl, HS.out.1, (Chg.of_below ((Below.refl _ w).drew)).trans HS.out.2 (fun _ _ h => h)⟩)⟩
set_option maxHeartbeats 2000000 in
theorem toutput (h : IsTab w g p r T) (ht : TabIn w) :
    Calls Tryd.prog 23 #[.pointer (some ⟨g, 0, none⟩)] w fun e w' => ∃ (v : Nat) (c : Int), e = .returned (.tuple #[.int .i64 (v : Int), .int .i64 c]) ∧ TakeR w w' g p r T 4 0 4 v c := by
  have HV := Lib.hid (tvalid h)
  have q1 := h.cellP 4 (by omega)
  have HL := Lib.hid (len_of (h.set 4 (by omega)))
  have H := Lib.hid h
  have HT := Lib.hid ht
  have hc1 := cnt_le T 4
  have hc0 := cnt_le T 0
  have hle := h.le
  have HF := Lib.hid (tfree h)
  obtain ⟨c1, hk1⟩ : ∃ c1, cnt T 4 = c1 := ⟨_, rfl⟩
  obtain ⟨c0, hk0⟩ : ∃ c0, cnt T 0 = c0 := ⟨_, rfl⟩
  have hk1' : (slotsOf (memb T 4)).length = c1 := hk1
  rw [hk1'] at HL
  rw [hk0] at HF hc0
  rw [hk1] at hc1
  have HK1 := Lib.hid hk1
  have HK0 := Lib.hid hk0
  clear h ht hk1 hk0 hk1'
  obtain ⟨n, hn⟩ : ∃ n, T.length = n := ⟨_, rfl⟩
  rw [hn] at hc0 hc1 hle
  clear hn
  go_enter Tryd.func23, Tryd.ntmps23
  go_wp2_with fail
  refine HV.out.mono ?_
  rintro e w' ⟨rfl, rfl⟩
  go_wp2_with fail
  refine HL.out.mono ?_
  rintro e w' ⟨rfl, rfl⟩
  by_cases h1 : 0 < c1
  · go_wp2_with fail
    go_ret2
    exact ⟨0, 6, rfl, .inl ⟨by rw [HK1.out]; exact h1, rfl, rfl, TabTo.refl H.out (Below.refl _ _)⟩⟩
  · have h10 : c1 = 0 := by omega
    subst h10
    go_wp2_with fail
    refine HF.out.mono ?_
    rintro e w' ⟨rfl, rfl⟩
    by_cases h2 : c0 = 0
    · subst h2
      go_wp2_with fail
      go_ret2
      exact ⟨0, 4, rfl, .inr (.inl ⟨HK1.out, by rw [HK0.out]; omega, rfl, rfl, TabTo.refl H.out (Below.refl _ _)⟩)⟩
    · have h3 : ((c0 : Int) == 0) = false := by simp; omega
      go_wp2_with fail
      refine (ttake H.out HT.out 4 (by omega) (by omega) (by rw [HK0.out]; omega)).mono ?_
      rintro e w2 ⟨rfl, hs⟩
      have HS := Lib.hid hs
      clear hs
      go_wp2_with fail
      go_ret2
      exact ⟨_, 0, rfl, .inr (.inr ⟨HK1.out, by rw [HK0.out]; omega, rfl, rfl, HS.out⟩)⟩
end
end Go.Proofs.YtalonikiljcpfaaDoor

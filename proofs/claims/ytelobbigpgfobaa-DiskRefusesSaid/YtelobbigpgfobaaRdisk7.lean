/-
  The document's disk (drumlinref10.Disk): slots that there are not; a disk's Crash and the document's that are refused. Conditions: the disks are as New makes them.
-/
import Derived.Test.YtelobbigpgfobaaRdisk6
import Derived.Test.YtelobbigpgfobaaDisk9
namespace Go.Proofs.Ytelobbigpgfobaa
open Go.RowKit Go.Shelf
set_option linter.unusedVariables false
attribute [local go_sem] Oper.semAt_some
section
variable {w w' w1 : World} {S S' : Nat → Prop} {d n : Nat} {D : Nat → SlotD} {rb : Option Nat} {lay : Lay} {p : Option Addr}
set_option maxHeartbeats 400000 in
theorem rappend_range (h : IsR w S d n D) (hn : 0 < n) (i : Int) (hi : i < 0 ∨ (n : Int) ≤ i) (A : Option Addr) (m c : Nat) :
    Calls Try.prog 25 #[.pointer (some ⟨d, 0, none⟩), .int .i64 i, .slice A m c] w fun e w' => e = .returned (.int .i64 3) ∧ w = w' := by
  have HC := Lib.hid (rcheck_range h hn i hi)
  clear h hi
  go_enter Try.func25, Try.ntmps25
  go_wp2_with fail
  refine HC.out.mono ?_
  rintro e w' ⟨rfl, rfl⟩
  go_wp2_with fail
  go_ret
  exact ⟨rfl, rfl⟩
set_option maxHeartbeats 400000 in
theorem rsync_range (h : IsR w S d n D) (hn : 0 < n) (i : Int) (hi : i < 0 ∨ (n : Int) ≤ i)  :
    Calls Try.prog 26 #[.pointer (some ⟨d, 0, none⟩), .int .i64 i] w fun e w' => e = .returned (.int .i64 3) ∧ w = w' := by
  have HC := Lib.hid (rcheck_range h hn i hi)
  clear h hi
  go_enter Try.func26, Try.ntmps26
  go_wp2_with fail
  refine HC.out.mono ?_
  rintro e w' ⟨rfl, rfl⟩
  go_wp2_with fail
  go_ret
  exact ⟨rfl, rfl⟩
set_option maxHeartbeats 400000 in
theorem rerase_range (h : IsR w S d n D) (hn : 0 < n) (i : Int) (hi : i < 0 ∨ (n : Int) ≤ i)  :
    Calls Try.prog 27 #[.pointer (some ⟨d, 0, none⟩), .int .i64 i] w fun e w' => e = .returned (.int .i64 3) ∧ w = w' := by
  have HC := Lib.hid (rcheck_range h hn i hi)
  clear h hi
  go_enter Try.func27, Try.ntmps27
  go_wp2_with fail
  refine HC.out.mono ?_
  rintro e w' ⟨rfl, rfl⟩
  go_wp2_with fail
  go_ret
  exact ⟨rfl, rfl⟩
set_option maxHeartbeats 400000 in
theorem rlen_range (h : IsR w S d n D) (hn : 0 < n) (i : Int) (hi : i < 0 ∨ (n : Int) ≤ i)  :
    Calls Try.prog 57 #[.pointer (some ⟨d, 0, none⟩), .int .i64 i] w fun e w' => e = .returned (.tuple #[.int .i64 0, .int .i64 3]) ∧ w = w' := by
  have HC := Lib.hid (rcheck_range h hn i hi)
  clear h hi
  go_enter Try.func57, Try.ntmps57
  go_wp2_with fail
  refine HC.out.mono ?_
  rintro e w' ⟨rfl, rfl⟩
  go_wp2_with fail
  go_ret2
  exact ⟨rfl, rfl⟩
set_option maxHeartbeats 400000 in
theorem rdurable_range (h : IsR w S d n D) (hn : 0 < n) (i : Int) (hi : i < 0 ∨ (n : Int) ≤ i)  :
    Calls Try.prog 58 #[.pointer (some ⟨d, 0, none⟩), .int .i64 i] w fun e w' => e = .returned (.tuple #[.int .i64 0, .int .i64 3]) ∧ w = w' := by
  have HC := Lib.hid (rcheck_range h hn i hi)
  clear h hi
  go_enter Try.func58, Try.ntmps58
  go_wp2_with fail
  refine HC.out.mono ?_
  rintro e w' ⟨rfl, rfl⟩
  go_wp2_with fail
  go_ret2
  exact ⟨rfl, rfl⟩
set_option maxHeartbeats 400000 in
theorem rroom_range (h : IsR w S d n D) (hn : 0 < n) (i : Int) (hi : i < 0 ∨ (n : Int) ≤ i)  :
    Calls Try.prog 59 #[.pointer (some ⟨d, 0, none⟩), .int .i64 i] w fun e w' => e = .returned (.tuple #[.int .i64 0, .int .i64 3]) ∧ w = w' := by
  have HC := Lib.hid (rcheck_range h hn i hi)
  clear h hi
  go_enter Try.func59, Try.ntmps59
  go_wp2_with fail
  refine HC.out.mono ?_
  rintro e w' ⟨rfl, rfl⟩
  go_wp2_with fail
  go_ret2
  exact ⟨rfl, rfl⟩
set_option maxHeartbeats 400000 in
theorem rread_range (h : IsR w S d n D) (hn : 0 < n) (i : Int) (hi : i < 0 ∨ (n : Int) ≤ i) (off m : Int) :
    Calls Try.prog 60 #[.pointer (some ⟨d, 0, none⟩), .int .i64 i, .int .i64 off, .int .i64 m] w fun e w' => e = .returned (.tuple #[.slice none 0 0, .int .i64 3]) ∧ w = w' := by
  have HC := Lib.hid (rcheck_range h hn i hi)
  clear h hi
  go_enter Try.func60, Try.ntmps60
  go_wp2_with fail
  refine HC.out.mono ?_
  rintro e w' ⟨rfl, rfl⟩
  go_wp2_with fail
  go_ret2
  exact ⟨rfl, rfl⟩
set_option maxHeartbeats 1000000 in
theorem rcrash_bad (h : IsR w S d n D) (hn : 0 < n) (A : Option Addr) (m c : Nat) (zs : List Int) (hm : m ≤ maxLen) (hr : Reads w w.heap.size 1 A m (ints zs)) (hb : m < 1 ∨ 34 < m ∨ ∃ z ∈ zs, z < 0) :
    Calls Try.prog 28 #[.pointer (some ⟨d, 0, none⟩), .slice A m c] w fun e w' => e = .returned (.int .i64 2) ∧ w = w' := by
  have hlen : zs.length = m := by have := hr.1; rw [ints_length] at this; omega
  have HV := Lib.hid (rvalid h hn)
  unfold maxLen at hm
  by_cases h0 : m = 0
  · subst h0
    clear h hr hb
    go_enter Try.func28, Try.ntmps28
    go_wp2_with fail
    refine HV.out.mono ?_
    rintro e w' ⟨rfl, rfl⟩
    go_wp2_with fail
    go_ret
    exact ⟨rfl, rfl⟩
  have t1 : ((m : Int) == 0) = false := by simp; omega
  by_cases h34 : 34 < m
  · have t2 : decide (34 < (m : Int)) = true := by simp; omega
    clear h hr hb
    go_enter Try.func28, Try.ntmps28
    go_wp2_with fail
    refine HV.out.mono ?_
    rintro e w' ⟨rfl, rfl⟩
    go_wp2_with fail
    go_ret
    exact ⟨rfl, rfl⟩
  have t2 : decide (34 < (m : Int)) = false := by simp; omega
  have hm34 : m ≤ 34 := by omega
  have HN : Hid (∃ k, k < m ∧ zs.getD k 0 < 0) := by
    rcases hb with e | e | ⟨z, hz, hz2⟩
    · omega
    · omega
    · obtain ⟨k, hk, rfl⟩ := List.mem_iff_getElem.1 hz
      exact ⟨k, by omega, by rw [List.getD_eq_getElem?_getD, List.getElem?_eq_getElem hk, Option.getD_some]; exact hz2⟩
  have HC : Hid (∀ k, k < m → ∃ ad, A = some ad ∧ w.cell? (ad.add k) = some (.int .i64 (zs.getD k 0))) := fun k hk => by
    obtain ⟨ad, u, e, _, hx, hc⟩ := hr.at_ hk
    have hkz : k < zs.length := by omega
    rw [ints_at hkz] at hx
    injection hx with hx
    subst hx
    refine ⟨ad, e, ?_⟩
    rw [hc, List.getD_eq_getElem?_getD, List.getElem?_eq_getElem hkz, Option.getD_some]
  clear h hr hb hlen h0 h34
  go_enter Try.func28, Try.ntmps28
  go_wp2_with fail
  refine HV.out.mono ?_
  rintro e w' ⟨rfl, rfl⟩
  go_wp2_with fail
  go_loopg [5] m (fun q v5 wr => ∃ (j : Nat), j + q = m ∧ v5 = .int .i64 j ∧ (∀ k, k < j → 0 ≤ zs.getD k 0) ∧ w = wr)
  case atStart => exact ⟨0, by omega, rfl, fun k hk => by omega, rfl⟩
  case round =>
    obtain ⟨j, hj, rfl, hp, rfl⟩ := hrel
    have HJ := Lib.hid hj
    have HP := Lib.hid hp
    have hj' : j ≤ m := by omega
    have hlt : j < m := by
      obtain ⟨k, hk, hk2⟩ := HN.out
      by_cases e : j < m
      · exact e
      · have := hp k (by omega); omega
    obtain ⟨ad, rfl, hc⟩ := HC.out j hlt
    obtain ⟨z, hz⟩ : ∃ z, zs.getD j 0 = z := ⟨_, rfl⟩
    have HZ := Lib.hid hz
    rw [hz] at hc
    clear hj hp hz
    by_cases hneg : z < 0
    · go_wp2_with fail
      go_ret
      exact ⟨rfl, rfl⟩
    · go_wp2_with fail
      go_roundg (gk - 1)
      case measure => have := HJ.out; omega
      case rel =>
        refine ⟨j + 1, by have := HJ.out; omega, by go_num, fun k hk => ?_, rfl⟩
        by_cases e : k = j
        · subst e; rw [HZ.out]; omega
        · exact HP.out k (by omega)
set_option maxRecDepth 100000 in
set_option maxHeartbeats 4000000 in
theorem crashdisk_no (h : NoDisk w p) (A : Option Addr) (m c : Nat) :
    Calls Try.prog 22 #[.pointer p, .slice A m c] w fun e w' => e = .returned (.int .i64 1) ∧ Below w.heap.size w w' := by
  refine (callsIn_wide (n := 5)).1 ?_
  have hb0 : Below w.heap.size w ((w.alloc (.cells #[.pointer p] 30)).alloc (.cells #[.slice A m c] 32)) := ((Below.refl _ _).alloc (Nat.le_refl _) _).alloc (by simp) _
  have HV := Lib.hid (valid_nodisk (h.below hb0))
  have HB := Lib.hid hb0
  clear h hb0
  refine callsIn_of_wp_marks Try.func22 rfl trivial ?_ rfl
  simp only [Try.ntmps22, List.size_toArray, List.length_cons, List.length_nil, Nat.reduceAdd, Nat.reduceSub, Array.replicate_succ, Array.replicate_zero, List.push_toArray, List.append_toArray, List.nil_append, List.cons_append]
  gi_wp2_with (refine ⟨trivial, ?_⟩; gi_at_call 49; refine (callsIn_wide.2 HV.out).mono ?_; rintro e w' ⟨rfl, rfl⟩)
  exact ⟨.int .i64 1, by simp [results, Try.f22, go_sem], rfl, HB.out⟩
set_option maxRecDepth 100000 in
set_option maxHeartbeats 4000000 in
theorem crashdisk_bad (h : IsDisk w d rb n lay D) (hn : 0 < n) (A : Option Addr) (m c : Nat) (zs : List Int) (hm : m ≤ maxLen) (hr : Reads w w.heap.size 1 A m (ints zs)) (hb : m < 1 ∨ 34 < m ∨ ∃ z ∈ zs, z < 0) :
    Calls Try.prog 22 #[.pointer (some ⟨d, 0, none⟩), .slice A m c] w fun e w' => e = .returned (.int .i64 2) ∧ Below w.heap.size w w' := by
  refine (callsIn_wide (n := 5)).1 ?_
  have hb0 : Below w.heap.size w ((w.alloc (.cells #[.pointer (some ⟨d, 0, none⟩)] 30)).alloc (.cells #[.slice A m c] 32)) := ((Below.refl _ _).alloc (Nat.le_refl _) _).alloc (by simp) _
  have HV := Lib.hid (valid_disk (h.below hb0) hn)
  have HB := Lib.hid hb0
  unfold maxLen at hm
  by_cases h1 : m < 1
  · have t1 : decide ((m : Int) < 1) = true := by simp; omega
    clear h hb0 hr hb
    refine callsIn_of_wp_marks Try.func22 rfl trivial ?_ rfl
    simp only [Try.ntmps22, List.size_toArray, List.length_cons, List.length_nil, Nat.reduceAdd, Nat.reduceSub, Array.replicate_succ, Array.replicate_zero, List.push_toArray, List.append_toArray, List.nil_append, List.cons_append]
    gi_wp2_with (refine ⟨trivial, ?_⟩; gi_at_call 49; refine (callsIn_wide.2 HV.out).mono ?_; rintro e w' ⟨rfl, rfl⟩)
    refine ⟨trivial, ?_⟩
    gi_wp2
    exact ⟨.int .i64 2, by simp [results, Try.f22, go_sem], rfl, HB.out⟩
  have t1 : decide ((m : Int) < 1) = false := by simp; omega
  by_cases h34 : 34 < m
  · have t2 : decide (34 < (m : Int)) = true := by simp; omega
    clear h hb0 hr hb
    refine callsIn_of_wp_marks Try.func22 rfl trivial ?_ rfl
    simp only [Try.ntmps22, List.size_toArray, List.length_cons, List.length_nil, Nat.reduceAdd, Nat.reduceSub, Array.replicate_succ, Array.replicate_zero, List.push_toArray, List.append_toArray, List.nil_append, List.cons_append]
    gi_wp2_with (refine ⟨trivial, ?_⟩; gi_at_call 49; refine (callsIn_wide.2 HV.out).mono ?_; rintro e w' ⟨rfl, rfl⟩)
    refine ⟨trivial, ?_⟩
    gi_wp2
    exact ⟨.int .i64 2, by simp [results, Try.f22, go_sem], rfl, HB.out⟩
  have t2 : decide (34 < (m : Int)) = false := by simp; omega
  have hneg : ∃ z ∈ zs, z < 0 := by
    rcases hb with e | e | e
    · omega
    · omega
    · exact e
  have HM : Hid (∀ W, Below w.heap.size w W → Calls Try.prog 50 #[.slice A m c] W fun e w' => ∃ r, e = .returned (.int .i64 r) ∧ r < 0 ∧ W = w') := fun W hW => by
    refine (min_ints A m c zs W ((hr.below hW).more hW.size) (by omega) (by omega)).mono ?_
    rintro e w' ⟨r, h1, h2, h3⟩
    exact ⟨r, h1, h2.2 hneg, h3⟩
  clear h hb0 hr hb hneg
  refine callsIn_of_wp_marks Try.func22 rfl trivial ?_ rfl
  simp only [Try.ntmps22, List.size_toArray, List.length_cons, List.length_nil, Nat.reduceAdd, Nat.reduceSub, Array.replicate_succ, Array.replicate_zero, List.push_toArray, List.append_toArray, List.nil_append, List.cons_append]
  gi_wp2_with (first
    | (refine ⟨trivial, ?_⟩; gi_at_call 49; refine (callsIn_wide.2 HV.out).mono ?_; rintro e w' ⟨rfl, rfl⟩)
    | (refine ⟨trivial, ?_⟩; gi_at_call 50; refine (callsIn_wide.2 (HM.out _ HB.out)).mono ?_; rintro e w' ⟨r, rfl, hrn, rfl⟩))
  exact ⟨.int .i64 2, by simp [results, Try.f22, go_sem], rfl, HB.out⟩
end
end Go.Proofs.Ytelobbigpgfobaa

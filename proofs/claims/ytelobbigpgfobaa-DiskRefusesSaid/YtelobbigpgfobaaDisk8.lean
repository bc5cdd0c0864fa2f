/-
  slices.Min of numbers that are not negative, or of some that are; what a crash leaves of a disk. No condition.
-/
import Derived.Test.YtelobbigpgfobaaDisk7
namespace Go.Proofs.Ytelobbigpgfobaa
open Go.RowKit Go.Shelf
set_option linter.unusedVariables false
set_option maxHeartbeats 1000000 in
theorem min_ints (A : Option Addr) (m c : Nat) (zs : List Int) (w : World) (hr : Reads w w.heap.size 1 A m (ints zs)) (h1 : 1 ≤ m) (hm : m ≤ 65536) :
    Calls Try.prog 50 #[.slice A m c] w fun e w' => ∃ r, e = .returned (.int .i64 r) ∧ (r < 0 ↔ ∃ z ∈ zs, z < 0) ∧ w = w' := by
  have hlen : zs.length = m := by have := hr.1; rw [ints_length] at this; omega
  have HL := Lib.hid hlen
  have HC : Hid (∀ k, k < m → ∃ ad, A = some ad ∧ w.cell? (ad.add k) = some (.int .i64 (zs.getD k 0))) := fun k hk => by
    obtain ⟨ad, u, e, _, hx, hc⟩ := hr.at_ hk
    have hkz : k < zs.length := by omega
    rw [ints_at hkz] at hx
    injection hx with hx
    subst hx
    refine ⟨ad, e, ?_⟩
    rw [hc, List.getD_eq_getElem?_getD, List.getElem?_eq_getElem hkz, Option.getD_some]
  obtain ⟨ad, rfl, q0⟩ := HC.out 0 (by omega)
  obtain ⟨z0, hz0⟩ : ∃ z0, zs.getD 0 0 = z0 := ⟨_, rfl⟩
  rw [hz0, show ad.add 0 = ad from by simp [Addr.add]] at q0
  have HZ := Lib.hid hz0
  clear hr hlen hz0
  go_enter Try.func50, Try.ntmps50
  go_wp2_with fail
  go_loopg [3, 4] m (fun q v3 v4 wr => ∃ (j : Nat) (r : Int), j + q = m + 1 ∧ j ≤ m ∧ 1 ≤ j ∧ v3 = .int .i64 r ∧ v4 = .int .i64 j ∧ (r < 0 ↔ ∃ k, k < j ∧ zs.getD k 0 < 0) ∧ w = wr)
  case atStart =>
    refine ⟨1, z0, by omega, by omega, by omega, rfl, rfl, ⟨fun h => ⟨0, by omega, (by rw [HZ.out]; exact h)⟩, fun ⟨k, h, h2⟩ => ?_⟩, rfl⟩
    have hk : k = 0 := by omega
    subst hk
    rw [HZ.out] at h2
    exact h2
  case round =>
    obtain ⟨j, r, hj, hj0, hj1, rfl, rfl, hr, rfl⟩ := hrel
    have hj' : j ≤ m := by omega
    have HJ := Lib.hid hj
    have HR := Lib.hid hr
    clear hr
    by_cases hlt : j < m
    · obtain ⟨ad', e, qc⟩ := HC.out j hlt
      injection e with e
      subst e
      obtain ⟨z, hz⟩ : ∃ z, zs.getD j 0 = z := ⟨_, rfl⟩
      rw [hz] at qc
      have HZ2 := Lib.hid hz
      clear hj hz
      go_wp2_with fail
      all_goals
        go_roundg (gk - 1)
        case measure => have := HJ.out; omega
        case rel =>
          refine ⟨j + 1, _, by have := HJ.out; omega, by omega, by omega, rfl, by go_num, ?_, rfl⟩
          have hr := HR.out
          have hz := HZ2.out
          constructor
          · intro h
            by_cases e : z < 0
            · exact ⟨j, by omega, by rw [hz]; exact e⟩
            · have : r < 0 := by (try split at h) <;> omega
              obtain ⟨k, h1, h2⟩ := hr.1 this
              exact ⟨k, by omega, h2⟩
          · rintro ⟨k, h1, h2⟩
            by_cases e : k = j
            · subst e
              rw [hz] at h2
              (try split) <;> omega
            · have := hr.2 ⟨k, by omega, h2⟩
              (try split) <;> omega
    · have e8 : j = m := by omega
      subst e8
      clear hj
      go_wp2_with fail
      go_ret
      refine ⟨r, rfl, HR.out.trans ⟨fun ⟨k, h1, h2⟩ => ?_, fun ⟨z, h1, h2⟩ => ?_⟩, rfl⟩
      · have hkz : k < zs.length := by rw [HL.out]; exact h1
        rw [List.getD_eq_getElem?_getD, List.getElem?_eq_getElem hkz, Option.getD_some] at h2
        exact ⟨_, List.getElem_mem hkz, h2⟩
      · obtain ⟨k, hk, rfl⟩ := List.mem_iff_getElem.1 h1
        refine ⟨k, by have := HL.out; omega, ?_⟩
        rw [List.getD_eq_getElem?_getD, List.getElem?_eq_getElem hk, Option.getD_some]
        exact h2
/-- How many bytes a slot keeps. -/
def crashN (keep : Int) (x : SlotD) : Nat := x.dur + min keep.toNat (x.bytes.length - x.dur)
def crashS (keep : Int) (x : SlotD) : SlotD := ⟨x.size, x.bytes.take (crashN keep x), crashN keep x⟩
def keepAt (zs : List Int) (i : Nat) : Int := zs.getD (i % zs.length) 0
def crashD (zs : List Int) (D : Nat → SlotD) : Nat → SlotD := fun i => crashS (keepAt zs i) (D i)
/-- The slots of a list have crashed. -/
def crAt (zs : List Int) (D : Nat → SlotD) (pre : List Nat) : Nat → SlotD := fun i => if i ∈ pre then crashS (keepAt zs i) (D i) else D i
theorem crAt_nil (zs : List Int) (D : Nat → SlotD) : crAt zs D [] = D := by funext i; simp [crAt]
theorem crAt_snoc (zs : List Int) (D : Nat → SlotD) (pre : List Nat) (x : Nat) : crAt zs D (pre ++ [x]) = updF (crAt zs D pre) x (crashS (keepAt zs x) (D x)) := by
  funext i
  unfold crAt updF
  by_cases e : i = x
  · subst e; simp
  · simp [e]
theorem crashS_min {keep : Int} {x : SlotD} (hk : 0 ≤ keep) (hl : x.bytes.length ≤ 8192) : crashS (min keep 8192) x = crashS keep x := by
  have e : crashN (min keep 8192) x = crashN keep x := by unfold crashN; omega
  unfold crashS
  rw [e]
theorem crashS_empty {keep : Int} {x : SlotD} (hl : x.bytes.length = 0) (hd : x.dur ≤ x.bytes.length) : crashS keep x = x := by
  obtain ⟨size, bytes, dur⟩ := x
  have hb : bytes = [] := by cases bytes with
    | nil => rfl
    | cons a l => simp at hl
  subst hb
  have hd' : dur = 0 := by simpa using hd
  subst hd'
  simp [crashS, crashN]
theorem IsDisk.congr {w : World} {d n : Nat} {rb : Option Nat} {lay : Lay} {D D' : Nat → SlotD} (h : IsDisk w d rb n lay D) (hD : ∀ i, i < n → D' i = D i) : IsDisk w d rb n lay D' :=
  ⟨h.row, h.ne, fun i hi => by rw [hD i hi]; exact h.img i hi, h.own, h.apart⟩
theorem IsDisk.nums {w : World} {d n : Nat} {rb : Option Nat} {lay : Lay} {D : Nat → SlotD} (h : IsDisk w d rb n lay D) {i : Nat} (hi : i < n) : (D i).dur ≤ (D i).bytes.length ∧ (D i).bytes.length ≤ (D i).size ∧ 1 ≤ (D i).size ∧ (D i).size ≤ 8192 := (h.img i hi).nums
/-- All the slots with bytes have crashed: all have. -/
theorem IsDisk.crashed {w w0 : World} {d n : Nat} {rb : Option Nat} {lay : Lay} {D : Nat → SlotD} {zs : List Int} (h0 : IsDisk w0 d rb n lay D) (h : IsDisk w d rb n lay (crAt zs D (usedTo D n))) : IsDisk w d rb n lay (crashD zs D) :=
  h.congr fun i hi => by
    unfold crashD crAt
    by_cases e : 0 < (D i).bytes.length
    · rw [if_pos (usedTo_mem.2 ⟨hi, e⟩)]
    · rw [if_neg (fun hm => e (usedTo_mem.1 hm).2), crashS_empty (by omega) (h0.nums hi).1]
theorem img_cells {w : World} {g : Nat} {fb : Option Nat} {l : List (BitVec 8)} {size dur : Nat} (h : IsImg w g fb l size dur) : ∀ k, foot g fb k → ∃ ob, w.heap[k]? = some ob ∧ ob.isCells = true := by
  obtain ⟨A, n, c, hi, rfl⟩ := h
  rintro k (rfl | hk)
  · exact ⟨_, hi.blk, rfl⟩
  · exact cellOb_row _ _ _ _ _ w hi.own k hk
theorem cellOb_disk (d : Nat) (rb : Option Nat) (n : Nat) (lay : Lay) (D : Nat → SlotD) : CellOb (diskOb d rb n lay D) := fun w h k hk => by
  have h' : IsDisk w d rb n lay D := h
  rcases hk with rfl | hk | ⟨i, hi, hk⟩
  · obtain ⟨A, c, h1, _, _⟩ := h'.row
    exact ⟨_, h1, rfl⟩
  · obtain ⟨A, c, _, h2, h3⟩ := h'.row
    exact cellOb_row _ _ _ _ _ w h2 k (h3.symm.trans hk)
  · exact img_cells (h'.img i hi) k hk
end Go.Proofs.Ytelobbigpgfobaa

/-
  The walk of the law CrcZeros: it returns true and writes nothing that was there. No condition.
-/
import Derived.Test.YtpdlkdlciipdcaaCrcLaw
namespace Go.Proofs.Ytpdlkdlciipdcaa
open Go.RowKit Drum
set_option linter.unusedVariables false
def zbytes (k : Nat) : List (BitVec 8) := List.replicate k 0#8
theorem craw_zeros (k : Nat) : ∀ x, craw x (zbytes k) = cshift k x := by
  induction k with
  | zero => intro x; rfl
  | succ k ih =>
    intro x
    show craw (cfeed x 0#8) (zbytes k) = cshift k (cz x)
    rw [cfeed_zero, ih]
theorem u8_info : (Try.prog.info? 5).map (fun i => (i.zero, i.size, i.bytes)) = some (some (.int .u8 0), 1, 1) := by kernel_rfl
theorem zcells (k : Nat) : (madeCells (Value.int .u8 0).cells (k * 1)).toList = u8s (zbytes k) := by
  rw [Nat.mul_one]
  show (madeCells #[Value.int .u8 0] k).toList = _
  rw [toList_madeCells_one]
  simp [u8s, zbytes, u8v, n8]
theorem u16_of_wf {n : Int} (h : (Lit.int .u16 n).wf = true) : 0 ≤ n ∧ n < 65536 := by
  simp [Lit.wf, IntKind.min, IntKind.max, IntKind.signed, IntKind.bits] at h
  omega
theorem u8s_append (l m : List (BitVec 8)) : u8s l ++ u8s m = u8s (l ++ m) := by simp [u8s]
theorem u8s_one (l : List (BitVec 8)) : ∀ u ∈ u8s l, u.oneCell' = true := by
  intro u hu
  simp only [u8s, List.mem_map] at hu
  obtain ⟨b, _, rfl⟩ := hu
  rfl
theorem make_u8 (k : Nat) (hk : k ≤ 65536) (w : World) : (Instr.makeSlice 22 (.int .i64 (k : Int)) (.int .i64 (k : Int))).run Try.prog w = .ok (.slice (some ⟨w.heap.size, 0, none⟩) k k) (w.alloc (.cells (u8s (zbytes k)).toArray 5)) := by
  obtain ⟨i0, hi0, hz0, hz1, hz2⟩ := info_parts u8_info
  have hr := run_make (P := Try.prog) w 22 5 i0 _ Try.underlying22 hi0 hz0 .i64 .i64 k k (by omega) (by omega) (by rw [hz2]; omega) (by omega)
  rw [Int.toNat_natCast, hz1] at hr
  rw [hr, ← zcells]
set_option maxHeartbeats 2000000 in
set_option maxRecDepth 100000 in
theorem CrcZeros_w (A : Option Addr) (n c : Nat) (l : List (BitVec 8)) (m : Nat) (w : World) (hl : n = l.length) (hr : Reads w w.heap.size 1 A n (u8s l)) (hm1 : m < 65536) :
    Calls Try.prog 11 #[.slice A n c, .int .u16 m] w fun e w' => e = .returned (.bool true) ∧ Below w.heap.size w w' := by
  have HR := Lib.hid hr
  have HL := Lib.hid hl
  clear hr hl
  by_cases hlen : 300 < n
  · go_enter Try.func11, Try.ntmps11
    go_wp2_with (go_at_call 13; refine (works_any _).mono ?_; rintro e w' ⟨rfl, hb⟩)
    go_ret
    exact ⟨rfl, hb⟩
  · have hlen' : n ≤ 300 := by omega
    obtain ⟨i0, hi0, hz0, hz1, hz2⟩ := info_parts u8_info
    obtain ⟨k, hk⟩ : ∃ k : Nat, m % 2001 = k := ⟨_, rfl⟩
    have hk1 : k ≤ 2000 := by omega
    have hki : (m : Int) % 2001 = (k : Int) := by omega
    have hmk := make_u8 k (by omega)
    rw [← hki] at hmk
    have HKI := Lib.hid hki
    have HCS := Lib.hid (show csum (l ++ zbytes k) = cshift k (csum l) ^^^ csum (zbytes k) by rw [csum_append]; simp [zbytes])
    clear hk hki
    go_enter Try.func11, Try.ntmps11
    go_wp2_with fail
    refine (sum_any _ _ _ _ l _ (HR.out.alloc (Nat.le_refl _) _) (by simp) HL.out (by unfold maxLen; omega)).mono ?_
    rintro e w1 ⟨rfl, hb1⟩
    have hb0 : Below w.heap.size w w1 := bt (ba (Below.refl _ _) _) hb1
    have HB0 := Lib.hid hb0
    have HZ1 := Lib.hid ((reads_new w 5 _ (0, 0) (zbytes k) k (by simp [zbytes]) rfl).below (hb1.mono (by simp)))
    have hws : w.heap.size + 1 ≤ w1.heap.size := by have := hb1.size; simp at this; omega
    clear hb1 hb0 hmk
    go_wp2_with fail
    refine (sum_any _ _ _ _ (zbytes k) _ HZ1.out hws (by simp [zbytes]) (by unfold maxLen; omega)).mono ?_
    rintro e w2 ⟨rfl, hb2⟩
    have HB2 := Lib.hid (bt HB0.out hb2)
    have HZ2 := Lib.hid ((HZ1.out.more hws).below hb2)
    have hws2 : w.heap.size ≤ w2.heap.size := by have := HB2.out.size; omega
    have hws3 : w1.heap.size ≤ w2.heap.size := hb2.size
    clear hb2
    go_wp2_with fail
    refine (combine_any _ _ _ (by omega) (by omega) _).mono ?_
    rw [HKI.out, Int.toNat_natCast, ← HCS.out]
    rintro e w3 ⟨rfl, hb3⟩
    have HB3 := Lib.hid (bt HB2.out hb3)
    have HZ3 := Lib.hid ((HZ2.out.more hws3).below hb3)
    have HR3 := Lib.hid (HR.out.below HB3.out)
    have hws4 : w2.heap.size ≤ w3.heap.size := hb3.size
    have hown0 : (w3.alloc (.cells #[] 5)).ownsRow w3.heap.size 5 1 (.slice (some ⟨w3.heap.size, 0, none⟩) 0 0) 0 [] := World.ownsRow_made w3 #[] 0 (Nat.le_refl _) (by unfold maxLen; omega) (by simp)
    clear hb3
    have HO := Lib.hid hown0
    clear hown0
    go_wp2_with (first
      | (at_builtin
         refine wpList_append_g _ (by simp [Region.wanted, yielded]) (.tmp 31) (.tmp 32) _ rfl w3.heap.size 5 i0 _ 1 1 Try.underlying22 hi0 hz0 hz1 hz2 rfl (by omega) (.slice (some ⟨w3.heap.size, 0, none⟩) 0 0) 0 [] rfl
           HO.out w.heap.size A n c (u8s l) rfl (HR3.out.alloc HB3.out.size _) (u8s_one l) (by simp only [maxLen]; omega) (by omega) (by simp) ?_
         intro v1 w4 hown1 hg1 hat1
         have HO1 := Lib.hid hown1
         have HB4 := Lib.hid (((HB3.out.alloc HB3.out.size _).grown hg1 (by simp; omega) (by intro q hq; simp [Value.ownBlock] at hq; omega)))
         have HZ4 := Lib.hid ((HZ3.out.alloc hws4 (.cells #[] 5)).grown hg1 (by simp; omega) (by intro q hq; simp [Value.ownBlock] at hq; omega))
         have hws5 : w3.heap.size + 1 ≤ w4.heap.size := by have := hg1.size; simp at this; omega
         have HW4 : Hid (∀ q, v1.ownBlock = some q → w3.heap.size ≤ q) := by
           intro q hq
           rcases hat1 with e | e <;> rw [e] at hq <;> simp [Value.ownBlock] at hq <;> omega
         clear hown1 hg1 hat1)
      | (at_builtin
         refine wpList_append_g _ (by simp [Region.wanted, yielded]) (.tmp 33) (.tmp 34) _ rfl w3.heap.size 5 i0 _ 1 1 Try.underlying22 hi0 hz0 hz1 hz2 rfl (by omega) v1 (0 + n) ([] ++ u8s l) rfl
           HO1.out w2.heap.size (some ⟨w.heap.size, 0, none⟩) k k (u8s (zbytes k)) rfl HZ4.out (u8s_one _) (by simp only [maxLen]; omega) (by omega) (by omega) ?_
         intro v2 w5 hown2 hg2 hat2
         have hown3 : w5.ownsRow w3.heap.size 5 1 v2 (0 + n + k) (u8s (l ++ zbytes k)) := by rw [← u8s_append]; simpa using hown2
         have HO2 := Lib.hid hown3
         have HB5 := Lib.hid (HB4.out.grown hg2 (by omega) (fun q hq => by have := HW4.out q hq; omega))
         clear hown2 hg2 hat2 hown3))
    refine (sum_own HO2.out).mono ?_
    rintro e w6 ⟨rfl, hb6⟩
    have HB6 := Lib.hid (bt HB5.out hb6)
    clear hb6
    go_wp2_with fail
    refine (works_any _).mono ?_
    rintro e w7 ⟨rfl, hb7⟩
    go_wp2
    go_ret
    exact ⟨rfl, bt HB6.out hb7⟩
theorem CrcZeros_walk (v0 v1 : Value) (w : World) (h0 : ArgIn Try.prog w 22 v0) (h1 : ArgIn Try.prog w 39 v1) :
    Calls Try.prog 11 #[v0, v1] w fun e w' => e = .returned (.bool true) ∧ Below w.heap.size w w' := by
  obtain ⟨a0, len0, cap0, z0, rfl, w0⟩ := h0.row Try.underlying22 Try.underlying5 (by kernel_rfl)
  obtain ⟨a1, rfl, w1⟩ := h1.int Try.underlying39
  obtain ⟨l, hl, hm, _, _, hr⟩ := w0.bytes
  obtain ⟨h2, h3⟩ := u16_of_wf w1
  obtain ⟨m, rfl⟩ := Int.eq_ofNat_of_zero_le h2
  exact CrcZeros_w a0 len0 cap0 l m w hl hr (by omega)
end Go.Proofs.Ytpdlkdlciipdcaa

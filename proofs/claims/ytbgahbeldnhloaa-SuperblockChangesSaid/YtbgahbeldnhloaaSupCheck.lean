/-
  The walks of config.Check and superblock.Check, and of the document's. Condition: the numbers are ints.
-/
import Derived.Test.YtbgahbeldnhloaaSupCodec2
import Derived.Deep.RegionHeld3
namespace Go.Proofs.Ytbgahbeldnhloaa
open Go.RowKit Drum
set_option linter.unusedVariables false
/-- A configuration's cells. -/
def cfv (c : Cf) : Array Value := #[.int .i64 c.slots, .int .i64 c.size, .int .i64 c.reserve, .int .i64 c.work, .int .i64 c.key, .int .i64 c.value, .int .i64 c.policy]
def recW (c : Cf) : Int := wrap64 (wrap64 (16 + c.key) + c.value)
set_option maxHeartbeats 400000 in
theorem record_any (c : Cf) (w : World) :
    Calls Try.prog 37 #[.agg (cfv c)] w fun e w' => e = .returned (.int .i64 (recW c)) ∧ w' = w.alloc (.cells (cfv c) 23) := by
  unfold cfv recW
  go_enter Try.func37, Try.ntmps37
  go_wp2
  go_ret
  exact ⟨rfl, rfl⟩
/-- The spans that are looked at. -/
def spanN (c : Cf) : Nat → Int
  | 0 => c.reserve | 1 => c.slots | 2 => c.key | 3 => c.value | 4 => c.size | 5 => c.work | _ => c.policy
def spanLo (c : Cf) : Nat → Int
  | 0 => 2 | 1 => IntKind.i64.wrap (c.reserve + 2) | 2 => 1 | 3 => 0 | 4 => IntKind.i64.wrap (16 + recW c) | 5 => IntKind.i64.wrap (2 * IntKind.i64.wrap (recW c + 16)) | _ => 1
def spanHi : Nat → Int
  | 0 => 8 | 1 => 32 | 2 => 32 | 3 => 512 | 4 => 8192 | 5 => 65536 | _ => 2
def spanOk (c : Cf) (i : Nat) : Prop := spanLo c i ≤ spanN c i ∧ spanN c i ≤ spanHi i
theorem spans_ok (c : Cf) (h : c.wf) : (∀ i, i < 7 → spanOk c i) ↔ c.ok := by
  constructor
  · intro hs
    have h0 := hs 0 (by omega)
    have h1 := hs 1 (by omega)
    have h2 := hs 2 (by omega)
    have h3 := hs 3 (by omega)
    have h4 := hs 4 (by omega)
    have h5 := hs 5 (by omega)
    have h6 := hs 6 (by omega)
    simp only [spanOk, spanN, spanLo, spanHi, IntWalk.i64_left] at h0 h1 h2 h3 h4 h5 h6
    have e1 : wrap64 (c.reserve + 2) = c.reserve + 2 := IntWalk.wrap64_in _ (by omega)
    have e2 : recW c = 16 + c.key + c.value := by
      unfold recW
      rw [IntWalk.wrap64_in (16 + c.key) (by omega), IntWalk.wrap64_in _ (by omega)]
    rw [e2] at h4 h5
    rw [IntWalk.wrap64_in _ (by omega)] at h4
    rw [IntWalk.wrap64_in (16 + c.key + c.value + 16) (by omega), IntWalk.wrap64_in _ (by omega)] at h5
    rw [e1] at h1
    unfold Cf.ok
    omega
  · intro hc i hi
    unfold Cf.ok at hc
    have e1 : wrap64 (c.reserve + 2) = c.reserve + 2 := IntWalk.wrap64_in _ (by omega)
    have e2 : recW c = 16 + c.key + c.value := by
      unfold recW
      rw [IntWalk.wrap64_in (16 + c.key) (by omega), IntWalk.wrap64_in _ (by omega)]
    have e3 : wrap64 (16 + recW c) = 16 + recW c := IntWalk.wrap64_in _ (by omega)
    have e4 : wrap64 (2 * wrap64 (recW c + 16)) = 2 * (recW c + 16) := by
      rw [IntWalk.wrap64_in (recW c + 16) (by omega), IntWalk.wrap64_in _ (by omega)]
    rcases (show i = 0 ∨ i = 1 ∨ i = 2 ∨ i = 3 ∨ i = 4 ∨ i = 5 ∨ i = 6 by omega) with rfl | rfl | rfl | rfl | rfl | rfl | rfl <;>
      simp only [spanOk, spanN, spanLo, spanHi, IntWalk.i64_left, e1, e3, e4] <;> omega
def spanCells (c : Cf) : Array Value := #[.int .i64 (spanN c 0), .int .i64 (spanLo c 0), .int .i64 (spanHi 0), .int .i64 (spanN c 1), .int .i64 (spanLo c 1), .int .i64 (spanHi 1),
  .int .i64 (spanN c 2), .int .i64 (spanLo c 2), .int .i64 (spanHi 2), .int .i64 (spanN c 3), .int .i64 (spanLo c 3), .int .i64 (spanHi 3), .int .i64 (spanN c 4), .int .i64 (spanLo c 4), .int .i64 (spanHi 4),
  .int .i64 (spanN c 5), .int .i64 (spanLo c 5), .int .i64 (spanHi 5), .int .i64 (spanN c 6), .int .i64 (spanLo c 6), .int .i64 (spanHi 6)]
set_option maxHeartbeats 4000000 in
theorem cfCheck_any (c : Cf) (hc : c.wf) (w : World) :
    Calls Try.prog 23 #[.agg (cfv c)] w fun e w' => e = .returned (.int .i64 (if c.ok then 0 else 2)) ∧ Below w.heap.size w w' := by
  have CA : Hid (∀ W, Below (w.heap.size + 1) (w.alloc (.cells (cfv c) 23)) W → Calls Try.prog 37 #[.agg (cfv c)] W fun e W' => e = .returned (.int .i64 (recW c)) ∧
      (W'.cell? ⟨w.heap.size, 0, none⟩ = some (.int .i64 c.slots) ∧ W'.cell? ⟨w.heap.size, 1, none⟩ = some (.int .i64 c.size) ∧ W'.cell? ⟨w.heap.size, 2, none⟩ = some (.int .i64 c.reserve) ∧ W'.cell? ⟨w.heap.size, 3, none⟩ = some (.int .i64 c.work) ∧
        W'.cell? ⟨w.heap.size, 4, none⟩ = some (.int .i64 c.key) ∧ W'.cell? ⟨w.heap.size, 5, none⟩ = some (.int .i64 c.value) ∧ W'.cell? ⟨w.heap.size, 6, none⟩ = some (.int .i64 c.policy)) ∧ Below (w.heap.size + 1) (w.alloc (.cells (cfv c) 23)) W') := by
    intro W hW
    have hb : Blk W w.heap.size 23 (cfv c) := (Blk.new w _ _).below hW (by omega)
    refine (record_any c W).mono ?_
    rintro e W' ⟨rfl, rfl⟩
    have hb' := hb.alloc (.cells (cfv c) 23)
    exact ⟨rfl, ⟨hb'.cell 0, hb'.cell 1, hb'.cell 2, hb'.cell 3, hb'.cell 4, hb'.cell 5, hb'.cell 6⟩, hW.alloc (by have := hW.size; simp at this; exact this) _⟩
  have hb0 : Blk (w.alloc (.cells (cfv c) 23)) w.heap.size 23 (cfv c) := Blk.new w _ _
  have hq0 : (w.alloc (.cells (cfv c) 23)).cell? ⟨w.heap.size, 0, none⟩ = some (.int .i64 c.slots) ∧ (w.alloc (.cells (cfv c) 23)).cell? ⟨w.heap.size, 1, none⟩ = some (.int .i64 c.size) ∧ (w.alloc (.cells (cfv c) 23)).cell? ⟨w.heap.size, 2, none⟩ = some (.int .i64 c.reserve) ∧ (w.alloc (.cells (cfv c) 23)).cell? ⟨w.heap.size, 3, none⟩ = some (.int .i64 c.work) ∧
        (w.alloc (.cells (cfv c) 23)).cell? ⟨w.heap.size, 4, none⟩ = some (.int .i64 c.key) ∧ (w.alloc (.cells (cfv c) 23)).cell? ⟨w.heap.size, 5, none⟩ = some (.int .i64 c.value) ∧ (w.alloc (.cells (cfv c) 23)).cell? ⟨w.heap.size, 6, none⟩ = some (.int .i64 c.policy) :=
    ⟨hb0.cell 0, hb0.cell 1, hb0.cell 2, hb0.cell 3, hb0.cell 4, hb0.cell 5, hb0.cell 6⟩
  have HB0 : Hid (Below (w.heap.size + 1) (w.alloc (.cells (cfv c) 23)) (w.alloc (.cells (cfv c) 23))) := Below.refl _ _
  have HW := Lib.hid (spans_ok c hc)
  clear hb0 hc
  unfold cfv at *
  go_enter Try.func23, Try.ntmps23
  go_wp2_with fail
  go_region_held3 (fun w' => w'.cell? ⟨w.heap.size, 0, none⟩ = some (.int .i64 c.slots) ∧ w'.cell? ⟨w.heap.size, 1, none⟩ = some (.int .i64 c.size) ∧ w'.cell? ⟨w.heap.size, 2, none⟩ = some (.int .i64 c.reserve) ∧ w'.cell? ⟨w.heap.size, 3, none⟩ = some (.int .i64 c.work) ∧
        w'.cell? ⟨w.heap.size, 4, none⟩ = some (.int .i64 c.key) ∧ w'.cell? ⟨w.heap.size, 5, none⟩ = some (.int .i64 c.value) ∧ w'.cell? ⟨w.heap.size, 6, none⟩ = some (.int .i64 c.policy)) (first | assumption | go_keep)
    (first | (go_at_call 37; refine (CA.out _ (by first | exact Below.refl _ _ | exact (Below.refl _ _).drew | assumption)).mono ?_; rintro e w4 ⟨rfl, hq1, hb1⟩))
  obtain ⟨wo, hwo⟩ : ∃ wo : World, wo = w4.alloc (.cells #[.int .i64 c.reserve, .int .i64 2, .int .i64 8, .int .i64 c.slots, .int .i64 (IntKind.i64.wrap (c.reserve + 2)), .int .i64 32, .int .i64 c.key, .int .i64 1, .int .i64 32,
          .int .i64 c.value, .int .i64 0, .int .i64 512, .int .i64 c.size, .int .i64 (IntKind.i64.wrap (16 + recW c)), .int .i64 8192, .int .i64 c.work,
          .int .i64 (IntKind.i64.wrap (2 * IntKind.i64.wrap (recW c + 16))), .int .i64 65536, .int .i64 c.policy, .int .i64 1, .int .i64 2] 72) := ⟨_, rfl⟩
  rw [← hwo]
  have HBK : Hid (Blk wo w4.heap.size 72 (spanCells c)) := by rw [hwo]; exact Blk.new _ _ _
  have HBW : Hid (Below w.heap.size w wo) := by
    rw [hwo]
    have h1 := ((Below.refl w.heap.size w).alloc (Nat.le_refl _) (.cells (cfv c) 23)).trans (hb1.mono (by omega))
    exact h1.alloc h1.size _
  have h4 : w.heap.size < w4.heap.size := by have := hb1.size; simp at this; omega
  clear hwo
  have HK := Lib.hid (fun (i : Nat) => HBK.out.cell i)
  clear hb1 hq1
  go_wp2_with fail
  go_loopg [38] 7 (fun q v38 wr => ∃ j : Nat, j + q = 7 ∧ v38 = .int .i64 j ∧ (∀ i, i < j → spanOk c i) ∧ Blk wr w4.heap.size 72 (spanCells c) ∧ Below w.heap.size w wr)
  case atStart => exact ⟨0, rfl, rfl, fun i hi => by omega, HBK.out, HBW.out⟩
  case round =>
    obtain ⟨j, hj, rfl, hok, hbk, hbw⟩ := hrel
    have HJ := Lib.hid hj
    have HOK := Lib.hid hok
    have HBK := Lib.hid hbk
    have HBW := Lib.hid hbw
    have hj7 : j ≤ 7 := by omega
    clear hj hok hbw
    by_cases hlt : j < 7
    · obtain ⟨n, lo, hi, g0, g1, g2, HS⟩ : ∃ n lo hi : Int, (spanCells c)[j * 3]? = some (.int .i64 n) ∧ (spanCells c)[j * 3 + 1]? = some (.int .i64 lo) ∧ (spanCells c)[j * 3 + 2]? = some (.int .i64 hi) ∧ Hid (spanOk c j ↔ (lo ≤ n ∧ n ≤ hi)) := by
        refine ⟨spanN c j, spanLo c j, spanHi j, ?_, ?_, ?_, Iff.rfl⟩ <;>
          rcases (show j = 0 ∨ j = 1 ∨ j = 2 ∨ j = 3 ∨ j = 4 ∨ j = 5 ∨ j = 6 by omega) with rfl | rfl | rfl | rfl | rfl | rfl | rfl <;> rfl
      have c0 : wr.cell? ⟨w4.heap.size, j * 3, none⟩ = some (.int .i64 n) := (hbk.cell _).trans g0
      have c1 : wr.cell? ⟨w4.heap.size, j * 3 + 1, none⟩ = some (.int .i64 lo) := (hbk.cell _).trans g1
      have c2 : wr.cell? ⟨w4.heap.size, j * 3 + 2, none⟩ = some (.int .i64 hi) := (hbk.cell _).trans g2
      clear hbk g0 g1 g2
      by_cases h1 : n < lo
      · have HNO : Hid (¬ c.ok) := fun h => by have := HS.out.1 (HW.out.2 h j hlt); omega
        go_wp2_with fail
        go_ret
        exact ⟨by first | rfl | (rw [if_neg HNO.out]; rfl), HBW.out.alloc HBW.out.size _⟩
      · by_cases h2 : hi < n
        · have HNO : Hid (¬ c.ok) := fun h => by have := HS.out.1 (HW.out.2 h j hlt); omega
          go_wp2_with fail
          go_ret
          exact ⟨by first | rfl | (rw [if_neg HNO.out]; rfl), HBW.out.alloc HBW.out.size _⟩
        · have HYES : Hid (spanOk c j) := HS.out.2 (by omega)
          go_wp2_with fail
          go_roundg (gk - 1)
          case measure => have := HJ.out; omega
          case rel =>
            refine ⟨j + 1, by have := HJ.out; omega, by go_num, fun i hi => ?_, HBK.out.alloc _, HBW.out.alloc HBW.out.size _⟩
            by_cases e : i = j
            · rw [e]; exact HYES.out
            · exact HOK.out i (by omega)
    · have hj7 : j = 7 := by omega
      subst hj7
      clear hbk
      have HYES : Hid c.ok := HW.out.1 HOK.out
      go_wp2_with fail
      go_ret
      exact ⟨by first | rfl | (rw [if_pos HYES.out]; rfl), HBW.out⟩
end Go.Proofs.Ytbgahbeldnhloaa

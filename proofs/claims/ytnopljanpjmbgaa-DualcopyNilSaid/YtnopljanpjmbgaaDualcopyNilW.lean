/-
  The walk of the law DualcopyNil: it returns true and writes nothing that was there. No condition.
-/
import Derived.Test.YtnopljanpjmbgaaMQ
import Derived.Test.YtnopljanpjmbgaaMR
import Derived.Test.YtnopljanpjmbgaaMA
namespace Go.Proofs.Ytnopljanpjmbgaa
open Go.RowKit Go.Shelf Drum
set_option linter.unusedVariables false
theorem list7 {l : List Value} (h : l.length = 7) : ∃ b c d e f g i, l = [b, c, d, e, f, g, i] := by
  match l, h with
  | [b, c, d, e, f, g, i], _ => exact ⟨b, c, d, e, f, g, i, rfl⟩
set_option maxRecDepth 20000 in
theorem cf_arg {w : World} {v : Value} (h : ArgIn Try.prog w 26 v) : ∃ c : Cf, v = .agg (cfv c) ∧ c.wf := by
  obtain ⟨cs, rfl, hl, hg⟩ := h.struct Try.underlying26
  have hC : Try.prog.cellsOf 26 = 7 := by kernel_rfl
  have hC3 : Try.prog.cellsOf 3 = 1 := by kernel_rfl
  rw [hC] at hl
  obtain ⟨b, c, d, e, f, g, i, hx⟩ := list7 hl
  rw [hx] at hg
  have k0 : Rd Try.prog w 3 [b] := by simpa [hC3] using hg 0 _ rfl
  have k1 : Rd Try.prog w 3 [c] := by simpa [hC3] using hg 1 _ rfl
  have k2 : Rd Try.prog w 3 [d] := by simpa [hC3] using hg 2 _ rfl
  have k3 : Rd Try.prog w 3 [e] := by simpa [hC3] using hg 3 _ rfl
  have k4 : Rd Try.prog w 3 [f] := by simpa [hC3] using hg 4 _ rfl
  have k5 : Rd Try.prog w 3 [g] := by simpa [hC3] using hg 5 _ rfl
  have k6 : Rd Try.prog w 3 [i] := by simpa [hC3] using hg 6 _ rfl
  obtain ⟨y0, e0, w0⟩ := Rd.int (k := .i64) Try.underlying3 k0
  obtain ⟨y1, e1, w1⟩ := Rd.int (k := .i64) Try.underlying3 k1
  obtain ⟨y2, e2, w2⟩ := Rd.int (k := .i64) Try.underlying3 k2
  obtain ⟨y3, e3, w3⟩ := Rd.int (k := .i64) Try.underlying3 k3
  obtain ⟨y4, e4, w4⟩ := Rd.int (k := .i64) Try.underlying3 k4
  obtain ⟨y5, e5, w5⟩ := Rd.int (k := .i64) Try.underlying3 k5
  obtain ⟨y6, e6, w6⟩ := Rd.int (k := .i64) Try.underlying3 k6
  refine ⟨⟨y0, y1, y2, y3, y4, y5, y6⟩, ?_, ?_⟩
  · refine congrArg Value.agg ?_
    apply Array.toList_inj.1
    rw [hx]
    simp only [List.cons.injEq, and_true] at e0 e1 e2 e3 e4 e5 e6
    rw [e0, e1, e2, e3, e4, e5, e6]
    rfl
  · intro n hn
    simp only [Cf.nums, List.mem_cons, List.not_mem_nil, or_false] at hn
    rcases hn with rfl | rfl | rfl | rfl | rfl | rfl | rfl
    · exact i64_of_wf w0
    · exact i64_of_wf w1
    · exact i64_of_wf w2
    · exact i64_of_wf w3
    · exact i64_of_wf w4
    · exact i64_of_wf w5
    · exact i64_of_wf w6
set_option maxRecDepth 100000 in
set_option maxHeartbeats 16000000 in
theorem DualcopyNil_w (c : Cf) (hc : c.wf) (q ep : Int) (hep : -9223372036854775808 ≤ ep ∧ ep ≤ 9223372036854775807) (w : World) :
    Calls Try.prog 4 #[.agg #[.int .i64 c.slots, .int .i64 c.size, .int .i64 c.reserve, .int .i64 c.work, .int .i64 c.key, .int .i64 c.value, .int .i64 c.policy], .int .i64 q, .int .i64 ep] w fun e w' => e = .returned (.bool true) ∧ Below w.heap.size w w' := by
  obtain ⟨b3, hb3⟩ : ∃ b3, b3 = w.heap.size := ⟨_, rfl⟩
  obtain ⟨b17, hb17⟩ : ∃ b17, b17 = w.heap.size + 1 := ⟨_, rfl⟩
  obtain ⟨b18, hb18⟩ : ∃ b18, b18 = w.heap.size + 1 + 1 := ⟨_, rfl⟩
  obtain ⟨W5, hW5⟩ : ∃ W5 : World, W5 = ((w.alloc (.cells #[.int .i64 c.slots, .int .i64 c.size, .int .i64 c.reserve, .int .i64 c.work, .int .i64 c.key, .int .i64 c.value, .int .i64 c.policy] 26)).alloc (.cells #[.pointer none, .pointer none, .int .i64 0, .int .i64 0, .bool false] 51)).alloc (.cells #[.pointer none, .pointer (some ⟨b17, 0, none⟩)] 24) := ⟨_, rfl⟩
  have H5 : Hid (Sep w.heap.size w W5 [blkOb b18 24 #[.pointer none, .pointer (some ⟨b17, 0, none⟩)], blkOb b17 51 #[.pointer none, .pointer none, .int .i64 0, .int .i64 0, .bool false], blkOb b3 26 #[.int .i64 c.slots, .int .i64 c.size, .int .i64 c.reserve, .int .i64 c.work, .int .i64 c.key, .int .i64 c.value, .int .i64 c.policy]]) := by
    show Sep _ _ _ _
    rw [hW5]
    exact (((Sep.start w).newBlk b3 _ _ hb3).newBlk b17 _ _ (by rw [World.size_alloc]; exact hb17)).newBlk b18 _ _ (by rw [World.size_alloc, World.size_alloc]; exact hb18)
  have HW5 := Lib.hid hW5
  have HB := Lib.hid (And.intro hb3 (And.intro hb17 hb18))
  have HCW := Lib.hid hc
  have HEP : Hid (Bk.wf ⟨ep, c⟩) := bk_wf c hc ep hep
  have HFF : Hid (∀ W, Below W5.heap.size W5 W → (W.cell? ⟨b3, 0, none⟩ = some (.int .i64 c.slots) ∧ W.cell? ⟨b3, 1, none⟩ = some (.int .i64 c.size) ∧ W.cell? ⟨b3, 2, none⟩ = some (.int .i64 c.reserve) ∧ W.cell? ⟨b3, 3, none⟩ = some (.int .i64 c.work) ∧ W.cell? ⟨b3, 4, none⟩ = some (.int .i64 c.key) ∧ W.cell? ⟨b3, 5, none⟩ = some (.int .i64 c.value) ∧ W.cell? ⟨b3, 6, none⟩ = some (.int .i64 c.policy)) ∧ W.cell? ⟨b18, 0, none⟩ = some (.pointer none) ∧ W.cell? ⟨b18, 1, none⟩ = some (.pointer (some ⟨b17, 0, none⟩)) ∧ W.cell? ⟨b17, 2, none⟩ = some (.int .i64 0)) := fun W hW => by
    have h := H5.out.below hW
    have k18 : Blk W b18 24 #[.pointer none, .pointer (some ⟨b17, 0, none⟩)] := h.get (.head _)
    have k17 : Blk W b17 51 #[.pointer none, .pointer none, .int .i64 0, .int .i64 0, .bool false] := h.get (.tail _ (.head _))
    have k3 : Blk W b3 26 #[.int .i64 c.slots, .int .i64 c.size, .int .i64 c.reserve, .int .i64 c.work, .int .i64 c.key, .int .i64 c.value, .int .i64 c.policy] := h.get (.tail _ (.tail _ (.head _)))
    exact ⟨⟨k3.cell 0, k3.cell 1, k3.cell 2, k3.cell 3, k3.cell 4, k3.cell 5, k3.cell 6⟩, k18.cell 0, k18.cell 1, k17.cell 2⟩
  clear hc hb3 hb17 hb18 hW5
  go_enter Try.func4, Try.ntmps4
  go_wp2_with fail
  rw [← HB.out.2.2, ← HB.out.2.1, ← HB.out.1, ← HW5.out]
  clear HW5
  go_loopg [20] 2 (fun q v20 wr => ∃ (j : Nat), j + q = 2 ∧ v20 = .int .i64 (j : Int) ∧ Below W5.heap.size W5 wr)
  case atStart => exact ⟨0, by omega, rfl, Below.refl _ _⟩
  case round =>
    obtain ⟨j, hj, rfl, hbr⟩ := hrel
    have HJ := Lib.hid hj
    have HBR := Lib.hid hbr
    have hj2 : j ≤ 2 := by omega
    clear hj hbr
    by_cases hlt : j < 2
    · obtain ⟨p, HN, qj⟩ : ∃ p : Option Addr, Hid (∀ W, Below W5.heap.size W5 W → NoDev W p) ∧ wr.cell? ⟨b18, j, none⟩ = some (.pointer p) := by
        obtain ⟨_, f8, f9, _⟩ := HFF.out wr HBR.out
        have e : j = 0 ∨ j = 1 := by omega
        rcases e with rfl | rfl
        · exact ⟨none, fun W hW => .inl rfl, f8⟩
        · exact ⟨some ⟨b17, 0, none⟩, fun W hW => .inr ⟨b17, rfl, (HFF.out W hW).2.2.2⟩, f9⟩
      have HR1 := Lib.hid (read_no (HN.out wr HBR.out))
      go_wp2_with fail
      refine HR1.out.mono ?_
      rintro e w1 ⟨rfl, hb⟩
      obtain ⟨b10, hb10⟩ : ∃ b10, b10 = w1.heap.size := ⟨_, rfl⟩
      obtain ⟨W2, hW2⟩ : ∃ W2 : World, W2 = w1.alloc (.cells #[.int .i64 0, .int .i64 0, .int .i64 0, .int .i64 0, .int .i64 0, .int .i64 0, .int .i64 0, .int .i64 0] 30) := ⟨_, rfl⟩
      have H2 : Hid (Sep wr.heap.size wr W2 [blkOb b10 30 #[.int .i64 0, .int .i64 0, .int .i64 0, .int .i64 0, .int .i64 0, .int .i64 0, .int .i64 0, .int .i64 0]]) := by
        show Sep _ _ _ _
        rw [hW2]
        exact ((Sep.start wr).below hb).newBlk b10 _ _ hb10
      have HB2 : Hid (Below W5.heap.size W5 W2) := HBR.out.trans (H2.out.bel.mono HBR.out.size)
      clear hb HR1 qj
      go_upto_region 6 with fail
      rw [← hb10, ← hW2]
      clear hb10 hW2
      have HR2 := Lib.hid (adv_no (HN.out W2 HB2.out) q)
      go_wp2_with fail
      refine HR2.out.mono ?_
      rintro e w3 ⟨rfl, hb⟩
      obtain ⟨b13, hb13⟩ : ∃ b13, b13 = w3.heap.size := ⟨_, rfl⟩
      obtain ⟨W4, hW4⟩ : ∃ W4 : World, W4 = w3.alloc (.cells #[.int .i64 0, .int .i64 0, .int .i64 0, .int .i64 0, .int .i64 0, .int .i64 0, .int .i64 0, .int .i64 0] 30) := ⟨_, rfl⟩
      have H4 : Hid (Sep wr.heap.size wr W4 [blkOb b13 30 #[.int .i64 0, .int .i64 0, .int .i64 0, .int .i64 0, .int .i64 0, .int .i64 0, .int .i64 0, .int .i64 0], blkOb b10 30 #[.int .i64 0, .int .i64 0, .int .i64 0, .int .i64 0, .int .i64 0, .int .i64 0, .int .i64 0, .int .i64 0]]) := by
        show Sep _ _ _ _
        rw [hW4]
        exact (H2.out.below hb).newBlk b13 _ _ hb13
      have HB4 : Hid (Below W5.heap.size W5 W4) := HBR.out.trans (H4.out.bel.mono HBR.out.size)
      clear hb HR2 H2
      go_upto_region 7 with fail
      rw [← hb13, ← hW4]
      clear hb13 hW4
      have k13 : Blk W4 b13 30 #[.int .i64 0, .int .i64 0, .int .i64 0, .int .i64 0, .int .i64 0, .int .i64 0, .int .i64 0, .int .i64 0] := H4.out.get (.head _)
      have k10 : Blk W4 b10 30 #[.int .i64 0, .int .i64 0, .int .i64 0, .int .i64 0, .int .i64 0, .int .i64 0, .int .i64 0, .int .i64 0] := H4.out.get (.tail _ (.head _))
      have r0 : W4.cell? ⟨b13, 0, none⟩ = some (.int .i64 0) := k13.cell 0
      have s0 : W4.cell? ⟨b10, 0, none⟩ = some (.int .i64 0) := k10.cell 0
      have r1 : W4.cell? ⟨b13, 1, none⟩ = some (.int .i64 0) := k13.cell 1
      have s1 : W4.cell? ⟨b10, 1, none⟩ = some (.int .i64 0) := k10.cell 1
      have r2 : W4.cell? ⟨b13, 2, none⟩ = some (.int .i64 0) := k13.cell 2
      have s2 : W4.cell? ⟨b10, 2, none⟩ = some (.int .i64 0) := k10.cell 2
      have r3 : W4.cell? ⟨b13, 3, none⟩ = some (.int .i64 0) := k13.cell 3
      have s3 : W4.cell? ⟨b10, 3, none⟩ = some (.int .i64 0) := k10.cell 3
      have r4 : W4.cell? ⟨b13, 4, none⟩ = some (.int .i64 0) := k13.cell 4
      have s4 : W4.cell? ⟨b10, 4, none⟩ = some (.int .i64 0) := k10.cell 4
      have r5 : W4.cell? ⟨b13, 5, none⟩ = some (.int .i64 0) := k13.cell 5
      have s5 : W4.cell? ⟨b10, 5, none⟩ = some (.int .i64 0) := k10.cell 5
      have r6 : W4.cell? ⟨b13, 6, none⟩ = some (.int .i64 0) := k13.cell 6
      have s6 : W4.cell? ⟨b10, 6, none⟩ = some (.int .i64 0) := k10.cell 6
      have r7 : W4.cell? ⟨b13, 7, none⟩ = some (.int .i64 0) := k13.cell 7
      have s7 : W4.cell? ⟨b10, 7, none⟩ = some (.int .i64 0) := k10.cell 7
      obtain ⟨⟨q0, q1, q2, q3, q4, q5, q6⟩, -⟩ := HFF.out W4 HB4.out
      have HR3 := Lib.hid (begin_no (HN.out W4 HB4.out) c HCW.out)
      clear k13 k10
      go_wp2_with fail
      refine HR3.out.mono ?_
      rintro e w5 ⟨rfl, hb⟩
      have HB6 : Hid (Below W5.heap.size W5 w5) := HB4.out.trans (hb.mono HB4.out.size)
      clear hb HR3 r0 s0 r1 s1 r2 s2 r3 s3 r4 s4 r5 s5 r6 s6 r7 s7 q0 q1 q2 q3 q4 q5 q6
      obtain ⟨⟨q0, q1, q2, q3, q4, q5, q6⟩, -⟩ := HFF.out w5 HB6.out
      have HR4 : Hid (Calls Try.prog 11 #[.pointer p, .agg #[.int .i64 ep, .int .i64 c.slots, .int .i64 c.size, .int .i64 c.reserve, .int .i64 c.work, .int .i64 c.key, .int .i64 c.value, .int .i64 c.policy]] w5 fun e w' => e = .returned (.int .i64 1) ∧ Below w5.heap.size w5 w') := write_no (HN.out w5 HB6.out) ⟨ep, c⟩ HEP.out
      go_wp2_with fail
      refine HR4.out.mono ?_
      rintro e w6 ⟨rfl, hb⟩
      have HB7 : Hid (Below W5.heap.size W5 w6) := HB6.out.trans (hb.mono HB6.out.size)
      clear hb HR4 q0 q1 q2 q3 q4 q5 q6
      go_wp2_with fail
      go_roundg (gk - 1)
      case measure => have := HJ.out; omega
      case rel => exact ⟨j + 1, by have := HJ.out; omega, by go_num, HB7.out⟩
    · have e2 : j = 2 := by omega
      subst e2
      go_wp2_with fail
      refine (works_any _).mono ?_
      rintro e w9 ⟨rfl, hb⟩
      have HBZ : Hid (Below w.heap.size w w9) := ((H5.out.below HBR.out).below hb).bel
      clear hb
      go_wp2_with fail
      go_ret
      exact ⟨rfl, HBZ.out⟩
theorem DualcopyNil_walk (v0 v1 v2 : Value) (w : World) (h0 : ArgIn Try.prog w 26 v0) (h1 : ArgIn Try.prog w 3 v1) (h2 : ArgIn Try.prog w 2 v2) :
    Calls Try.prog 4 #[v0, v1, v2] w fun e w' => e = .returned (.bool true) ∧ Below w.heap.size w w' := by
  obtain ⟨c, rfl, hc⟩ := cf_arg h0
  obtain ⟨q, rfl, _⟩ := h1.int (k := .i64) Try.underlying3
  obtain ⟨ep, rfl, hep⟩ := h2.int (k := .i64) Try.underlying2
  exact DualcopyNil_w c hc q ep (i64_of_wf hep) w
end Go.Proofs.Ytnopljanpjmbgaa

/-
  The walk of the law DualcopyRefuses. No condition.
-/
import Derived.Test.YtnopljanpjmbgaaMS
import Derived.Test.YtnopljanpjmbgaaMQ
import Derived.Deep.DeepCutAuto
import Derived.Deep.CutBlock
namespace Go.Proofs.Ytnopljanpjmbgaa
open Go.RowKit Go.Shelf Drum
set_option linter.unusedVariables false
/-- A configuration and a superblock that are refused. -/
structure RBad (n : Nat) (c : Cf) (k : Bk) : Prop where
  cb : ¬ (c.ok ∧ c.slots = (n : Int))
  cw : c.wf
  kb : ¬ k.ok
  kw : k.wf
theorem cf_wf_of {s z r w k v p : Int} (h : ∀ x ∈ [s, z, r, w, k, v, p], -9223372036854775808 ≤ x ∧ x ≤ 9223372036854775807) : Cf.wf ⟨s, z, r, w, k, v, p⟩ := h
set_option maxRecDepth 100000 in
set_option maxHeartbeats 16000000 in
theorem DualcopyRefuses_k (b : Fin 7 → BitVec 8) (n sz : Nat) (re wk ke va po : Int) (hc : smallC b = ⟨(n : Int), (sz : Int), re, wk, ke, va, po⟩) (hn4 : 4 ≤ n) (hn9 : n ≤ 9) (hs1 : 34 ≤ sz) (hs2 : sz ≤ 400) (wh : BitVec 8) (s : Nat) (hs : n8 wh % 5 = (s : Int)) (hs5 : s < 5) (m : Int) (hm0 : 0 ≤ m) (hm1 : m < 65536) (w : World) :
    Calls Try.prog 3 #[.agg #[.int .u8 (n8 (b 0)), .int .u8 (n8 (b 1)), .int .u8 (n8 (b 2)), .int .u8 (n8 (b 3)), .int .u8 (n8 (b 4)), .int .u8 (n8 (b 5)), .int .u8 (n8 (b 6))], .int .u8 (n8 wh), .int .u16 m] w fun e w' => e = .returned (.bool true) ∧ Below w.heap.size w w' := by
  have hok := smallC_ok b
  have hwf := smallC_wf b
  rw [hc] at hok hwf
  obtain ⟨b3, hb3⟩ : ∃ b3, b3 = w.heap.size := ⟨_, rfl⟩
  obtain ⟨W1, hW1⟩ : ∃ W1 : World, W1 = w.alloc (.cells #[.int .u8 (n8 (b 0)), .int .u8 (n8 (b 1)), .int .u8 (n8 (b 2)), .int .u8 (n8 (b 3)), .int .u8 (n8 (b 4)), .int .u8 (n8 (b 5)), .int .u8 (n8 (b 6))] 22) := ⟨_, rfl⟩
  have H1 : Hid (Sep w.heap.size w W1 [blkOb b3 22 #[.int .u8 (n8 (b 0)), .int .u8 (n8 (b 1)), .int .u8 (n8 (b 2)), .int .u8 (n8 (b 3)), .int .u8 (n8 (b 4)), .int .u8 (n8 (b 5)), .int .u8 (n8 (b 6))]]) := by
    show Sep _ _ _ _
    rw [hW1]
    exact (Sep.start w).newBlk b3 _ _ hb3
  have HBG := Lib.hid (begun_k H1.out (AllCells.cons (cellOb_blk _ _ _) AllCells.nil) b n sz re wk ke va po hc hn4 hn9 hs1 hs2)
  obtain ⟨i0, j0⟩ := n8_bd wh
  have HOK := Lib.hid (And.intro hok hwf)
  have HK := Lib.hid (And.intro hn4 (And.intro hn9 (And.intro hs1 hs2)))
  clear hc hok hwf hn4 hn9 hs1 hs2
  go_enter Try.func3, Try.ntmps3
  go_wp2_with fail
  rw [← hb3, ← hW1]
  clear hW1 hb3
  refine HBG.out.mono ?_
  rintro e w2 ⟨v, L, X, rfl, hbg, hsp⟩
  obtain ⟨g8, hg8⟩ : ∃ g8, g8 = w2.heap.size := ⟨_, rfl⟩
  obtain ⟨W3, hW3⟩ : ∃ W3 : World, W3 = w2.alloc (.cells #[.int .i64 (n : Int), .int .i64 (sz : Int), .int .i64 re, .int .i64 wk, .int .i64 ke, .int .i64 va, .int .i64 po] 26) := ⟨_, rfl⟩
  have H3 : Hid (Sep w.heap.size w W3 [blkOb g8 26 #[.int .i64 (n : Int), .int .i64 (sz : Int), .int .i64 re, .int .i64 wk, .int .i64 ke, .int .i64 va, .int .i64 po], devOb v L X]) := by
    show Sep _ _ _ _
    rw [hW3]
    exact (hsp.newBlk g8 _ _ hg8).sub (.cons_cons _ (.cons_cons _ (.cons _ (List.Sublist.refl _))))
  have HB := Lib.hid hbg
  clear hbg hsp HBG H1
  go_upto_region 4 with fail
  rw [← hg8, ← hW3]
  clear hg8 hW3
  have k8 : Blk W3 g8 26 #[.int .i64 (n : Int), .int .i64 (sz : Int), .int .i64 re, .int .i64 wk, .int .i64 ke, .int .i64 va, .int .i64 po] := H3.out.get (.head _)
  have q0 : W3.cell? ⟨g8, 0, none⟩ = some (.int .i64 (n : Int)) := k8.cell 0
  have q1 : W3.cell? ⟨g8, 1, none⟩ = some (.int .i64 (sz : Int)) := k8.cell 1
  have q2 : W3.cell? ⟨g8, 2, none⟩ = some (.int .i64 re) := k8.cell 2
  have q3 : W3.cell? ⟨g8, 3, none⟩ = some (.int .i64 wk) := k8.cell 3
  have q4 : W3.cell? ⟨g8, 4, none⟩ = some (.int .i64 ke) := k8.cell 4
  have q5 : W3.cell? ⟨g8, 5, none⟩ = some (.int .i64 va) := k8.cell 5
  have q6 : W3.cell? ⟨g8, 6, none⟩ = some (.int .i64 po) := k8.cell 6
  have hlt : g8 < W3.heap.size := k8.lt
  have hne1 : ¬ g8 = W3.heap.size := by omega
  have hne2 : ¬ g8 = W3.heap.size + 1 := by omega
  have y0 : ∀ o, (W3.alloc o).cell? ⟨g8, 0, none⟩ = some (.int .i64 (n : Int)) := fun o => (k8.alloc o).cell 0
  have z0 : ∀ o1 o2, ((W3.alloc o1).alloc o2).cell? ⟨g8, 0, none⟩ = some (.int .i64 (n : Int)) := fun o1 o2 => ((k8.alloc o1).alloc o2).cell 0
  have y1 : ∀ o, (W3.alloc o).cell? ⟨g8, 1, none⟩ = some (.int .i64 (sz : Int)) := fun o => (k8.alloc o).cell 1
  have z1 : ∀ o1 o2, ((W3.alloc o1).alloc o2).cell? ⟨g8, 1, none⟩ = some (.int .i64 (sz : Int)) := fun o1 o2 => ((k8.alloc o1).alloc o2).cell 1
  have y2 : ∀ o, (W3.alloc o).cell? ⟨g8, 2, none⟩ = some (.int .i64 re) := fun o => (k8.alloc o).cell 2
  have z2 : ∀ o1 o2, ((W3.alloc o1).alloc o2).cell? ⟨g8, 2, none⟩ = some (.int .i64 re) := fun o1 o2 => ((k8.alloc o1).alloc o2).cell 2
  have y3 : ∀ o, (W3.alloc o).cell? ⟨g8, 3, none⟩ = some (.int .i64 wk) := fun o => (k8.alloc o).cell 3
  have z3 : ∀ o1 o2, ((W3.alloc o1).alloc o2).cell? ⟨g8, 3, none⟩ = some (.int .i64 wk) := fun o1 o2 => ((k8.alloc o1).alloc o2).cell 3
  have y4 : ∀ o, (W3.alloc o).cell? ⟨g8, 4, none⟩ = some (.int .i64 ke) := fun o => (k8.alloc o).cell 4
  have z4 : ∀ o1 o2, ((W3.alloc o1).alloc o2).cell? ⟨g8, 4, none⟩ = some (.int .i64 ke) := fun o1 o2 => ((k8.alloc o1).alloc o2).cell 4
  have y5 : ∀ o, (W3.alloc o).cell? ⟨g8, 5, none⟩ = some (.int .i64 va) := fun o => (k8.alloc o).cell 5
  have z5 : ∀ o1 o2, ((W3.alloc o1).alloc o2).cell? ⟨g8, 5, none⟩ = some (.int .i64 va) := fun o1 o2 => ((k8.alloc o1).alloc o2).cell 5
  have y6 : ∀ o, (W3.alloc o).cell? ⟨g8, 6, none⟩ = some (.int .i64 po) := fun o => (k8.alloc o).cell 6
  have z6 : ∀ o1 o2, ((W3.alloc o1).alloc o2).cell? ⟨g8, 6, none⟩ = some (.int .i64 po) := fun o1 o2 => ((k8.alloc o1).alloc o2).cell 6
  clear k8
  go_cut [9, 10] (fun s9 s10 wx => ∃ (g9 g10 : Nat), s9 = .pointer (some ⟨g9, 0, none⟩) ∧ s10 = .pointer (some ⟨g10, 0, none⟩) ∧ Sep w.heap.size w wx [blkOb g10 30 #[.int .i64 3, .int .i64 (n : Int), .int .i64 (sz : Int), .int .i64 re, .int .i64 wk, .int .i64 ke, .int .i64 va, .int .i64 po], blkOb g9 26 #[.int .i64 (n : Int), .int .i64 (sz : Int), .int .i64 re, .int .i64 wk, .int .i64 ke, .int .i64 va, .int .i64 po], blkOb g8 26 #[.int .i64 (n : Int), .int .i64 (sz : Int), .int .i64 re, .int .i64 wk, .int .i64 ke, .int .i64 va, .int .i64 po], devOb v L X])
  case first =>
    go_region
    all_goals
      go_wp2_with fail
      go_meet
      first
        | exact ⟨_, _, rfl, rfl, ((H3.out.newBlk W3.heap.size 26 #[.int .i64 (n : Int), .int .i64 (sz : Int), .int .i64 re, .int .i64 wk, .int .i64 ke, .int .i64 va, .int .i64 po] rfl).newBlk (W3.heap.size + 1) 30 #[.int .i64 3, .int .i64 (n : Int), .int .i64 (sz : Int), .int .i64 re, .int .i64 wk, .int .i64 ke, .int .i64 va, .int .i64 po] (by rw [World.size_alloc])).drew⟩
        | exact ⟨_, _, rfl, rfl, (((H3.out.newBlk W3.heap.size 30 #[.int .i64 3, .int .i64 (n : Int), .int .i64 (sz : Int), .int .i64 re, .int .i64 wk, .int .i64 ke, .int .i64 va, .int .i64 po] rfl).newBlk (W3.heap.size + 1) 26 #[.int .i64 (n : Int), .int .i64 (sz : Int), .int .i64 re, .int .i64 wk, .int .i64 ke, .int .i64 va, .int .i64 po] (by rw [World.size_alloc])).perm (.swap _ _ _)).drew⟩
  case rest =>
    obtain ⟨g9, g10, rfl, rfl, hsp⟩ := hcut
    have H4 := Lib.hid hsp
    have FF : ∀ W, Sep w.heap.size w W [blkOb g10 30 #[.int .i64 3, .int .i64 (n : Int), .int .i64 (sz : Int), .int .i64 re, .int .i64 wk, .int .i64 ke, .int .i64 va, .int .i64 po], blkOb g9 26 #[.int .i64 (n : Int), .int .i64 (sz : Int), .int .i64 re, .int .i64 wk, .int .i64 ke, .int .i64 va, .int .i64 po], blkOb g8 26 #[.int .i64 (n : Int), .int .i64 (sz : Int), .int .i64 re, .int .i64 wk, .int .i64 ke, .int .i64 va, .int .i64 po], devOb v L X] → (W.cell? ⟨g8, 0, none⟩ = some (.int .i64 (n : Int)) ∧ W.cell? ⟨g9, 0, none⟩ = some (.int .i64 (n : Int)) ∧ W.frozen? ⟨g9, 0, none⟩ = false ∧ W.cell? ⟨g8, 1, none⟩ = some (.int .i64 (sz : Int)) ∧ W.cell? ⟨g9, 1, none⟩ = some (.int .i64 (sz : Int)) ∧ W.frozen? ⟨g9, 1, none⟩ = false ∧ W.cell? ⟨g8, 2, none⟩ = some (.int .i64 re) ∧ W.cell? ⟨g9, 2, none⟩ = some (.int .i64 re) ∧ W.frozen? ⟨g9, 2, none⟩ = false ∧ W.cell? ⟨g8, 3, none⟩ = some (.int .i64 wk) ∧ W.cell? ⟨g9, 3, none⟩ = some (.int .i64 wk) ∧ W.frozen? ⟨g9, 3, none⟩ = false ∧ W.cell? ⟨g8, 4, none⟩ = some (.int .i64 ke) ∧ W.cell? ⟨g9, 4, none⟩ = some (.int .i64 ke) ∧ W.frozen? ⟨g9, 4, none⟩ = false ∧ W.cell? ⟨g8, 5, none⟩ = some (.int .i64 va) ∧ W.cell? ⟨g9, 5, none⟩ = some (.int .i64 va) ∧ W.frozen? ⟨g9, 5, none⟩ = false ∧ W.cell? ⟨g8, 6, none⟩ = some (.int .i64 po) ∧ W.cell? ⟨g9, 6, none⟩ = some (.int .i64 po) ∧ W.frozen? ⟨g9, 6, none⟩ = false ∧ W.cell? ⟨g10, 0, none⟩ = some (.int .i64 3) ∧ W.frozen? ⟨g10, 0, none⟩ = false ∧ W.cell? ⟨g10, 1, none⟩ = some (.int .i64 (n : Int)) ∧ W.frozen? ⟨g10, 1, none⟩ = false ∧ W.cell? ⟨g10, 2, none⟩ = some (.int .i64 (sz : Int)) ∧ W.frozen? ⟨g10, 2, none⟩ = false ∧ W.cell? ⟨g10, 3, none⟩ = some (.int .i64 re) ∧ W.frozen? ⟨g10, 3, none⟩ = false ∧ W.cell? ⟨g10, 4, none⟩ = some (.int .i64 wk) ∧ W.frozen? ⟨g10, 4, none⟩ = false ∧ W.cell? ⟨g10, 5, none⟩ = some (.int .i64 ke) ∧ W.frozen? ⟨g10, 5, none⟩ = false ∧ W.cell? ⟨g10, 6, none⟩ = some (.int .i64 va) ∧ W.frozen? ⟨g10, 6, none⟩ = false ∧ W.cell? ⟨g10, 7, none⟩ = some (.int .i64 po) ∧ W.frozen? ⟨g10, 7, none⟩ = false) := fun W hW => by
      have k10 : Blk W g10 30 #[.int .i64 3, .int .i64 (n : Int), .int .i64 (sz : Int), .int .i64 re, .int .i64 wk, .int .i64 ke, .int .i64 va, .int .i64 po] := hW.get (.head _)
      have k9 : Blk W g9 26 #[.int .i64 (n : Int), .int .i64 (sz : Int), .int .i64 re, .int .i64 wk, .int .i64 ke, .int .i64 va, .int .i64 po] := hW.get (.tail _ (.head _))
      have k8 : Blk W g8 26 #[.int .i64 (n : Int), .int .i64 (sz : Int), .int .i64 re, .int .i64 wk, .int .i64 ke, .int .i64 va, .int .i64 po] := hW.get (.tail _ (.tail _ (.head _)))
      exact ⟨k8.cell 0, k9.cell 0, k9.frozen 0, k8.cell 1, k9.cell 1, k9.frozen 1, k8.cell 2, k9.cell 2, k9.frozen 2, k8.cell 3, k9.cell 3, k9.frozen 3, k8.cell 4, k9.cell 4, k9.frozen 4, k8.cell 5, k9.cell 5, k9.frozen 5, k8.cell 6, k9.cell 6, k9.frozen 6, k10.cell 0, k10.frozen 0, k10.cell 1, k10.frozen 1, k10.cell 2, k10.frozen 2, k10.cell 3, k10.frozen 3, k10.cell 4, k10.frozen 4, k10.cell 5, k10.frozen 5, k10.cell 6, k10.frozen 6, k10.cell 7, k10.frozen 7⟩
    obtain ⟨r0, c0, f0, r1, c1, f1, r2, c2, f2, r3, c3, f3, r4, c4, f4, r5, c5, f5, r6, c6, f6, e0, h0, e1, h1, e2, h2, e3, h3, e4, h4, e5, h5, e6, h6, e7, h7⟩ := FF _ hsp
    clear FF hsp hlt hne1 hne2 q0 y0 z0 q1 y1 z1 q2 y2 z2 q3 y3 z3 q4 y4 z4 q5 y5 z5 q6 y6 z6 H3
    have HS := Lib.hid hs
    have HS5 := Lib.hid hs5
    have hn9 : (n : Int) ≤ 9 := by have := HK.out.2.1; omega
    have hn0 : (0 : Int) ≤ (n : Int) := by omega
    clear hs hs5
    go_upto_block 0 with fail
    go_cut [38] (fun s38 wx => ∃ (d0 d1 d2 d3 d4 d5 d6 k0 k1 k2 k3 k4 k5 k6 k7 : Int), RBad n ⟨d0, d1, d2, d3, d4, d5, d6⟩ ⟨k0, ⟨k1, k2, k3, k4, k5, k6, k7⟩⟩ ∧ Sep w.heap.size w wx [blkOb g10 30 #[.int .i64 k0, .int .i64 k1, .int .i64 k2, .int .i64 k3, .int .i64 k4, .int .i64 k5, .int .i64 k6, .int .i64 k7], blkOb g9 26 #[.int .i64 d0, .int .i64 d1, .int .i64 d2, .int .i64 d3, .int .i64 d4, .int .i64 d5, .int .i64 d6], blkOb g8 26 #[.int .i64 (n : Int), .int .i64 (sz : Int), .int .i64 re, .int .i64 wk, .int .i64 ke, .int .i64 va, .int .i64 po], devOb v L X])
    case first =>
      have hs5 := HS5.out
      have es : s = 0 ∨ s = 1 ∨ s = 2 ∨ s = 3 ∨ s = 4 := by omega
      have ho := HOK.out.1
      unfold Cf.ok at ho
      dsimp only at ho
      have HO := Lib.hid ho
      clear ho hs5
      have HES := Lib.hid es
      clear es
      rcases HES.out with e | e | e | e | e
      · have hz : n8 wh % 5 = 0 := by have := HS.out; omega
        clear e
        have hap := H4.out.apart
        rw [List.pairwise_cons] at hap
        have hne1 : ¬ g10 = g9 := hap.1 _ (.head _) g10 rfl
        have hne2 : ¬ g9 = g10 := fun e => hne1 e.symm
        clear hap
        go_wp2_with fail
        go_meet
        have hz1 := (((H4.out.perm (.swap _ _ _)).setBlk 0 (.int .i64 ((n : Int) + 1))).perm (.swap _ _ _)).setBlk 0 (.int .i64 (-m))
        refine ⟨(n : Int) + 1, (sz : Int), re, wk, ke, va, po, -m, (n : Int), (sz : Int), re, wk, ke, va, po, ⟨fun e => ?_, ?_, fun e => ?_, ⟨?_, ?_⟩⟩, hz1⟩
        · have e1 := e.1
          have e2 := e.2
          unfold Cf.ok at e1
          dsimp only at e1 e2
          omega
        · exact fun x hx => by
            simp only [Cf.nums, List.mem_cons, List.not_mem_nil, or_false] at hx
            have ho := HO.out
            rcases hx with rfl | rfl | rfl | rfl | rfl | rfl | rfl <;> omega
        · have e1 := e.1
          have e2 := e.2
          unfold Cf.ok at e2
          dsimp only at e1 e2
          omega
        · dsimp only
          omega
        · exact fun x hx => by
            simp only [Cf.nums, List.mem_cons, List.not_mem_nil, or_false] at hx
            have ho := HO.out
            rcases hx with rfl | rfl | rfl | rfl | rfl | rfl | rfl <;> omega
      · have hz : n8 wh % 5 = 1 := by have := HS.out; omega
        clear e
        go_wp2_with fail
        go_meet
        have hz1 := (((H4.out.perm (.swap _ _ _)).setBlk 1 (.int .i64 (8193 + m))).perm (.swap _ _ _)).setBlk 0 (.int .i64 (1099511627777 + m))
        refine ⟨(n : Int), 8193 + m, re, wk, ke, va, po, 1099511627777 + m, (n : Int), (sz : Int), re, wk, ke, va, po, ⟨fun e => ?_, ?_, fun e => ?_, ⟨?_, ?_⟩⟩, hz1⟩
        · have e1 := e.1
          have e2 := e.2
          unfold Cf.ok at e1
          dsimp only at e1 e2
          omega
        · exact fun x hx => by
            simp only [Cf.nums, List.mem_cons, List.not_mem_nil, or_false] at hx
            have ho := HO.out
            rcases hx with rfl | rfl | rfl | rfl | rfl | rfl | rfl <;> omega
        · have e1 := e.1
          have e2 := e.2
          unfold Cf.ok at e2
          dsimp only at e1 e2
          omega
        · dsimp only
          omega
        · exact fun x hx => by
            simp only [Cf.nums, List.mem_cons, List.not_mem_nil, or_false] at hx
            have ho := HO.out
            rcases hx with rfl | rfl | rfl | rfl | rfl | rfl | rfl <;> omega
      · have hz : n8 wh % 5 = 2 := by have := HS.out; omega
        clear e
        go_wp2_with fail
        go_meet
        have hz1 := (((H4.out.perm (.swap _ _ _)).setBlk 6 (.int .i64 (3 + m))).perm (.swap _ _ _)).setBlk 7 (.int .i64 (3 + m))
        refine ⟨(n : Int), (sz : Int), re, wk, ke, va, 3 + m, 3, (n : Int), (sz : Int), re, wk, ke, va, 3 + m, ⟨fun e => ?_, ?_, fun e => ?_, ⟨?_, ?_⟩⟩, hz1⟩
        · have e1 := e.1
          have e2 := e.2
          unfold Cf.ok at e1
          dsimp only at e1 e2
          omega
        · exact fun x hx => by
            simp only [Cf.nums, List.mem_cons, List.not_mem_nil, or_false] at hx
            have ho := HO.out
            rcases hx with rfl | rfl | rfl | rfl | rfl | rfl | rfl <;> omega
        · have e1 := e.1
          have e2 := e.2
          unfold Cf.ok at e2
          dsimp only at e1 e2
          omega
        · dsimp only
          omega
        · exact fun x hx => by
            simp only [Cf.nums, List.mem_cons, List.not_mem_nil, or_false] at hx
            have ho := HO.out
            rcases hx with rfl | rfl | rfl | rfl | rfl | rfl | rfl <;> omega
      · have hz : n8 wh % 5 = 3 := by have := HS.out; omega
        clear e
        go_wp2_with fail
        go_meet
        have hz1 := (((H4.out.perm (.swap _ _ _)).setBlk 2 (.int .i64 (1))).perm (.swap _ _ _)).setBlk 3 (.int .i64 (-m))
        refine ⟨(n : Int), (sz : Int), 1, wk, ke, va, po, 3, (n : Int), (sz : Int), -m, wk, ke, va, po, ⟨fun e => ?_, ?_, fun e => ?_, ⟨?_, ?_⟩⟩, hz1⟩
        · have e1 := e.1
          have e2 := e.2
          unfold Cf.ok at e1
          dsimp only at e1 e2
          omega
        · exact fun x hx => by
            simp only [Cf.nums, List.mem_cons, List.not_mem_nil, or_false] at hx
            have ho := HO.out
            rcases hx with rfl | rfl | rfl | rfl | rfl | rfl | rfl <;> omega
        · have e1 := e.1
          have e2 := e.2
          unfold Cf.ok at e2
          dsimp only at e1 e2
          omega
        · dsimp only
          omega
        · exact fun x hx => by
            simp only [Cf.nums, List.mem_cons, List.not_mem_nil, or_false] at hx
            have ho := HO.out
            rcases hx with rfl | rfl | rfl | rfl | rfl | rfl | rfl <;> omega
      · have hz : n8 wh % 5 = 4 := by have := HS.out; omega
        clear e
        go_wp2_with fail
        go_meet
        have hz1 := (((H4.out.perm (.swap _ _ _)).setBlk 4 (.int .i64 (0))).perm (.swap _ _ _)).setBlk 5 (.int .i64 (33 + m))
        refine ⟨(n : Int), (sz : Int), re, wk, 0, va, po, 3, (n : Int), (sz : Int), re, wk, 33 + m, va, po, ⟨fun e => ?_, ?_, fun e => ?_, ⟨?_, ?_⟩⟩, hz1⟩
        · have e1 := e.1
          have e2 := e.2
          unfold Cf.ok at e1
          dsimp only at e1 e2
          omega
        · exact fun x hx => by
            simp only [Cf.nums, List.mem_cons, List.not_mem_nil, or_false] at hx
            have ho := HO.out
            rcases hx with rfl | rfl | rfl | rfl | rfl | rfl | rfl <;> omega
        · have e1 := e.1
          have e2 := e.2
          unfold Cf.ok at e2
          dsimp only at e1 e2
          omega
        · dsimp only
          omega
        · exact fun x hx => by
            simp only [Cf.nums, List.mem_cons, List.not_mem_nil, or_false] at hx
            have ho := HO.out
            rcases hx with rfl | rfl | rfl | rfl | rfl | rfl | rfl <;> omega
    case rest =>
      obtain ⟨d0, d1, d2, d3, d4, d5, d6, k0, k1, k2, k3, k4, k5, k6, k7, hbad, hsp⟩ := hcut
      have H5 : Hid (Sep w.heap.size w _ (devOb v L X :: [blkOb g10 30 #[.int .i64 k0, .int .i64 k1, .int .i64 k2, .int .i64 k3, .int .i64 k4, .int .i64 k5, .int .i64 k6, .int .i64 k7], blkOb g9 26 #[.int .i64 d0, .int .i64 d1, .int .i64 d2, .int .i64 d3, .int .i64 d4, .int .i64 d5, .int .i64 d6], blkOb g8 26 #[.int .i64 (n : Int), .int .i64 (sz : Int), .int .i64 re, .int .i64 wk, .int .i64 ke, .int .i64 va, .int .i64 po]])) := hsp.perm (List.perm_middle (l₁ := [_, _, _]))
      have HR := Lib.hid hbad
      have hno1 : ¬ (3 + m = 1 ∨ 3 + m = 2) := by omega
      have hno2 : ¬ (-m = 1 ∨ -m = 2) := by omega
      have HN1 := Lib.hid hno1
      have HN2 := Lib.hid hno2
      obtain ⟨kk, hk, hk0, hk1⟩ : ∃ kk : Int, m % 100 = kk ∧ 0 ≤ kk ∧ kk < 100 := ⟨m % 100, rfl, by omega, by omega⟩
      obtain ⟨X2, X4, RF⟩ := ref_plain HB.out kk ⟨hk0, hk1⟩
      have HRF := Lib.hid RF
      have hops1 : Hid (X.ops ≤ 100000) := by have := RF.ops.1; show _ ≤ _; omega
      have hops2 : Hid (X2.ops ≤ 100000) := by have := RF.ops.2.1; show _ ≤ _; omega
      have hops3 : Hid ((restartX X2).ops ≤ 100000) := hops2.out
      have hops4 : Hid (X4.ops ≤ 100000) := by have := RF.ops.2.2; show _ ≤ _; omega
      have HBX : Hid (beginX X ⟨d0, d1, d2, d3, d4, d5, d6⟩ = (2, X)) := begin_bad X (by rw [HB.out.rd.hn]; exact HR.out.cb)
      have HWX : Hid (writeX X ⟨k0, ⟨k1, k2, k3, k4, k5, k6, k7⟩⟩ = (2, X)) := write_bad X HR.out.kb
      have HBH : Hid (beginX X ⟨(n : Int), (sz : Int), re, wk, ke, va, po⟩ = (6, X)) := begin_have HB.out.rd _ HB.out.ok rfl (by rw [HB.out.d0]; intro e; have := encOf_length ⟨2, ⟨(n : Int), (sz : Int), re, wk, ke, va, po⟩⟩; rw [show encOf ⟨2, ⟨(n : Int), (sz : Int), re, wk, ke, va, po⟩⟩ = [] from e] at this; cases this)
      have HBX2 : Hid (beginX X2 ⟨d0, d1, d2, d3, d4, d5, d6⟩ = (2, X2)) := begin_bad X2 (by rw [HRF.out.n2]; exact HR.out.cb)
      have HWX2 : Hid (writeX X2 ⟨k0, ⟨k1, k2, k3, k4, k5, k6, k7⟩⟩ = (2, X2)) := write_bad X2 HR.out.kb
      have HBD : Hid (beginX X2 ⟨(n : Int), (sz : Int), re, wk, ke, va, po⟩ = (13, X2)) := begin_down HRF.out.down HB.out.ok (by rw [HRF.out.n2])
      have HWD : Hid (writeX X2 ⟨3, ⟨(n : Int), (sz : Int), re, wk, ke, va, po⟩⟩ = (13, X2)) := write_down HRF.out.down ⟨⟨by show (1 : Int) ≤ 3; omega, by show (3 : Int) ≤ 1099511627776; omega⟩, HB.out.ok⟩
      have HWF := Lib.hid (And.intro HOK.out.2 (And.intro HR.out.cw HR.out.kw))
      have HW3 : Hid (Bk.wf ⟨3, ⟨(n : Int), (sz : Int), re, wk, ke, va, po⟩⟩) := bk_wf _ HOK.out.2 3 (by omega)
      have HWL : Hid (Bk.wf ⟨1099511627776, ⟨(n : Int), (sz : Int), re, wk, ke, va, po⟩⟩) := bk_wf _ HOK.out.2 1099511627776 (by omega)
      clear hsp hbad hno1 hno2 RF H4
      go_wp2_with fail
      refine (lt_ops H5.out).mono ?_
      rintro e w16 ⟨rfl, hs⟩
      have H16 := Lib.hid hs
      clear hs
      go_wp2_with fail
      refine (lt_adv H16.out (AllCells.cons (cellOb_blk _ _ _) (AllCells.cons (cellOb_blk _ _ _) (AllCells.cons (cellOb_blk _ _ _) AllCells.nil))) hops1.out (3 + m) 2 0 0 0 0 0 0 0 0 (adv_bad X HN1.out)).mono ?_
      rintro e w17 ⟨rfl, L17, hs⟩
      have H17 := Lib.hid hs
      clear hs
      obtain ⟨g13, hg13⟩ : ∃ g13, g13 = w17.heap.size := ⟨_, rfl⟩
      obtain ⟨W17, hW17⟩ : ∃ W17 : World, W17 = w17.alloc (.cells #[.int .i64 0, .int .i64 0, .int .i64 0, .int .i64 0, .int .i64 0, .int .i64 0, .int .i64 0, .int .i64 0] 30) := ⟨_, rfl⟩
      have H17b : Hid (Sep w.heap.size w W17 (devOb v L17 X :: [blkOb g13 30 #[.int .i64 0, .int .i64 0, .int .i64 0, .int .i64 0, .int .i64 0, .int .i64 0, .int .i64 0, .int .i64 0], blkOb g10 30 #[.int .i64 k0, .int .i64 k1, .int .i64 k2, .int .i64 k3, .int .i64 k4, .int .i64 k5, .int .i64 k6, .int .i64 k7], blkOb g9 26 #[.int .i64 d0, .int .i64 d1, .int .i64 d2, .int .i64 d3, .int .i64 d4, .int .i64 d5, .int .i64 d6], blkOb g8 26 #[.int .i64 (n : Int), .int .i64 (sz : Int), .int .i64 re, .int .i64 wk, .int .i64 ke, .int .i64 va, .int .i64 po]])) := by
        show Sep _ _ _ _
        rw [hW17]
        exact (H17.out.newBlk g13 30 #[.int .i64 0, .int .i64 0, .int .i64 0, .int .i64 0, .int .i64 0, .int .i64 0, .int .i64 0, .int .i64 0] hg13).perm (.swap _ _ _)
      go_upto_region 18 with fail
      rw [← hg13, ← hW17]
      clear hg13 hW17
      go_wp2_with fail
      refine (lt_adv H17b.out (AllCells.cons (cellOb_blk _ _ _) (AllCells.cons (cellOb_blk _ _ _) (AllCells.cons (cellOb_blk _ _ _) (AllCells.cons (cellOb_blk _ _ _) AllCells.nil)))) hops1.out (-m) 2 0 0 0 0 0 0 0 0 (adv_bad X HN2.out)).mono ?_
      rintro e w18 ⟨rfl, L18, hs⟩
      have H18 := Lib.hid hs
      clear hs
      obtain ⟨g15, hg15⟩ : ∃ g15, g15 = w18.heap.size := ⟨_, rfl⟩
      obtain ⟨W18, hW18⟩ : ∃ W18 : World, W18 = w18.alloc (.cells #[.int .i64 0, .int .i64 0, .int .i64 0, .int .i64 0, .int .i64 0, .int .i64 0, .int .i64 0, .int .i64 0] 30) := ⟨_, rfl⟩
      have H18b : Hid (Sep w.heap.size w W18 (devOb v L18 X :: [blkOb g15 30 #[.int .i64 0, .int .i64 0, .int .i64 0, .int .i64 0, .int .i64 0, .int .i64 0, .int .i64 0, .int .i64 0], blkOb g13 30 #[.int .i64 0, .int .i64 0, .int .i64 0, .int .i64 0, .int .i64 0, .int .i64 0, .int .i64 0, .int .i64 0], blkOb g10 30 #[.int .i64 k0, .int .i64 k1, .int .i64 k2, .int .i64 k3, .int .i64 k4, .int .i64 k5, .int .i64 k6, .int .i64 k7], blkOb g9 26 #[.int .i64 d0, .int .i64 d1, .int .i64 d2, .int .i64 d3, .int .i64 d4, .int .i64 d5, .int .i64 d6], blkOb g8 26 #[.int .i64 (n : Int), .int .i64 (sz : Int), .int .i64 re, .int .i64 wk, .int .i64 ke, .int .i64 va, .int .i64 po]])) := by
        show Sep _ _ _ _
        rw [hW18]
        exact (H18.out.newBlk g15 30 #[.int .i64 0, .int .i64 0, .int .i64 0, .int .i64 0, .int .i64 0, .int .i64 0, .int .i64 0, .int .i64 0] hg15).perm (.swap _ _ _)
      go_upto_region 19 with fail
      rw [← hg15, ← hW18]
      clear hg15 hW18
      have kg9 : Blk W18 g9 26 #[.int .i64 d0, .int .i64 d1, .int .i64 d2, .int .i64 d3, .int .i64 d4, .int .i64 d5, .int .i64 d6] := H18b.out.get (.tail _ (.tail _ (.tail _ (.tail _ (.head _)))))
      have q1 : W18.cell? ⟨g9, 0, none⟩ = some (.int .i64 d0) := kg9.cell 0
      have q2 : W18.cell? ⟨g9, 1, none⟩ = some (.int .i64 d1) := kg9.cell 1
      have q3 : W18.cell? ⟨g9, 2, none⟩ = some (.int .i64 d2) := kg9.cell 2
      have q4 : W18.cell? ⟨g9, 3, none⟩ = some (.int .i64 d3) := kg9.cell 3
      have q5 : W18.cell? ⟨g9, 4, none⟩ = some (.int .i64 d4) := kg9.cell 4
      have q6 : W18.cell? ⟨g9, 5, none⟩ = some (.int .i64 d5) := kg9.cell 5
      have q7 : W18.cell? ⟨g9, 6, none⟩ = some (.int .i64 d6) := kg9.cell 6
      clear kg9
      go_wp2_with fail
      refine (lt_begin H18b.out (AllCells.cons (cellOb_blk _ _ _) (AllCells.cons (cellOb_blk _ _ _) (AllCells.cons (cellOb_blk _ _ _) (AllCells.cons (cellOb_blk _ _ _) (AllCells.cons (cellOb_blk _ _ _) AllCells.nil))))) hops1.out d0 d1 d2 d3 d4 d5 d6 2 HWF.out.2.1 HBX.out).mono ?_
      rintro e w19 ⟨rfl, L19, hs⟩
      have H19 := Lib.hid hs
      clear hs
      clear q1 q2 q3 q4 q5 q6 q7
      have kg10 : Blk w19 g10 30 #[.int .i64 k0, .int .i64 k1, .int .i64 k2, .int .i64 k3, .int .i64 k4, .int .i64 k5, .int .i64 k6, .int .i64 k7] := H19.out.get (.tail _ (.tail _ (.tail _ (.head _))))
      have q8 : w19.cell? ⟨g10, 0, none⟩ = some (.int .i64 k0) := kg10.cell 0
      have q9 : w19.cell? ⟨g10, 1, none⟩ = some (.int .i64 k1) := kg10.cell 1
      have q10 : w19.cell? ⟨g10, 2, none⟩ = some (.int .i64 k2) := kg10.cell 2
      have q11 : w19.cell? ⟨g10, 3, none⟩ = some (.int .i64 k3) := kg10.cell 3
      have q12 : w19.cell? ⟨g10, 4, none⟩ = some (.int .i64 k4) := kg10.cell 4
      have q13 : w19.cell? ⟨g10, 5, none⟩ = some (.int .i64 k5) := kg10.cell 5
      have q14 : w19.cell? ⟨g10, 6, none⟩ = some (.int .i64 k6) := kg10.cell 6
      have q15 : w19.cell? ⟨g10, 7, none⟩ = some (.int .i64 k7) := kg10.cell 7
      clear kg10
      go_wp2_with fail
      refine (lt_write H19.out (AllCells.cons (cellOb_blk _ _ _) (AllCells.cons (cellOb_blk _ _ _) (AllCells.cons (cellOb_blk _ _ _) (AllCells.cons (cellOb_blk _ _ _) (AllCells.cons (cellOb_blk _ _ _) AllCells.nil))))) hops1.out k0 k1 k2 k3 k4 k5 k6 k7 2 HWF.out.2.2 HWX.out).mono ?_
      rintro e w20 ⟨rfl, L20, hs⟩
      have H20 := Lib.hid hs
      clear hs
      clear q8 q9 q10 q11 q12 q13 q14 q15
      have kg13 : Blk w20 g13 30 #[.int .i64 0, .int .i64 0, .int .i64 0, .int .i64 0, .int .i64 0, .int .i64 0, .int .i64 0, .int .i64 0] := H20.out.get (.tail _ (.tail _ (.head _)))
      have q16 : w20.cell? ⟨g13, 0, none⟩ = some (.int .i64 0) := kg13.cell 0
      have q17 : w20.cell? ⟨g13, 1, none⟩ = some (.int .i64 0) := kg13.cell 1
      have q18 : w20.cell? ⟨g13, 2, none⟩ = some (.int .i64 0) := kg13.cell 2
      have q19 : w20.cell? ⟨g13, 3, none⟩ = some (.int .i64 0) := kg13.cell 3
      have q20 : w20.cell? ⟨g13, 4, none⟩ = some (.int .i64 0) := kg13.cell 4
      have q21 : w20.cell? ⟨g13, 5, none⟩ = some (.int .i64 0) := kg13.cell 5
      have q22 : w20.cell? ⟨g13, 6, none⟩ = some (.int .i64 0) := kg13.cell 6
      have q23 : w20.cell? ⟨g13, 7, none⟩ = some (.int .i64 0) := kg13.cell 7
      clear kg13
      have kg15 : Blk w20 g15 30 #[.int .i64 0, .int .i64 0, .int .i64 0, .int .i64 0, .int .i64 0, .int .i64 0, .int .i64 0, .int .i64 0] := H20.out.get (.tail _ (.head _))
      have q24 : w20.cell? ⟨g15, 0, none⟩ = some (.int .i64 0) := kg15.cell 0
      have q25 : w20.cell? ⟨g15, 1, none⟩ = some (.int .i64 0) := kg15.cell 1
      have q26 : w20.cell? ⟨g15, 2, none⟩ = some (.int .i64 0) := kg15.cell 2
      have q27 : w20.cell? ⟨g15, 3, none⟩ = some (.int .i64 0) := kg15.cell 3
      have q28 : w20.cell? ⟨g15, 4, none⟩ = some (.int .i64 0) := kg15.cell 4
      have q29 : w20.cell? ⟨g15, 5, none⟩ = some (.int .i64 0) := kg15.cell 5
      have q30 : w20.cell? ⟨g15, 6, none⟩ = some (.int .i64 0) := kg15.cell 6
      have q31 : w20.cell? ⟨g15, 7, none⟩ = some (.int .i64 0) := kg15.cell 7
      clear kg15
      have kg8 : Blk w20 g8 26 #[.int .i64 (n : Int), .int .i64 (sz : Int), .int .i64 re, .int .i64 wk, .int .i64 ke, .int .i64 va, .int .i64 po] := H20.out.get (.tail _ (.tail _ (.tail _ (.tail _ (.tail _ (.head _))))))
      have q32 : w20.cell? ⟨g8, 0, none⟩ = some (.int .i64 (n : Int)) := kg8.cell 0
      have q33 : w20.cell? ⟨g8, 1, none⟩ = some (.int .i64 (sz : Int)) := kg8.cell 1
      have q34 : w20.cell? ⟨g8, 2, none⟩ = some (.int .i64 re) := kg8.cell 2
      have q35 : w20.cell? ⟨g8, 3, none⟩ = some (.int .i64 wk) := kg8.cell 3
      have q36 : w20.cell? ⟨g8, 4, none⟩ = some (.int .i64 ke) := kg8.cell 4
      have q37 : w20.cell? ⟨g8, 5, none⟩ = some (.int .i64 va) := kg8.cell 5
      have q38 : w20.cell? ⟨g8, 6, none⟩ = some (.int .i64 po) := kg8.cell 6
      clear kg8
      go_wp2_with fail
      refine (lt_begin H20.out (AllCells.cons (cellOb_blk _ _ _) (AllCells.cons (cellOb_blk _ _ _) (AllCells.cons (cellOb_blk _ _ _) (AllCells.cons (cellOb_blk _ _ _) (AllCells.cons (cellOb_blk _ _ _) AllCells.nil))))) hops1.out (n : Int) (sz : Int) re wk ke va po 6 HWF.out.1 HBH.out).mono ?_
      rintro e w21 ⟨rfl, L21, hs⟩
      have H21 := Lib.hid hs
      clear hs
      clear q16 q17 q18 q19 q20 q21 q22 q23 q24 q25 q26 q27 q28 q29 q30 q31 q32 q33 q34 q35 q36 q37 q38
      go_wp2_with fail
      refine (lt_ops H21.out).mono ?_
      rintro e w22 ⟨rfl, hs⟩
      have H22 := Lib.hid hs
      clear hs
      obtain ⟨bg, hbg⟩ : ∃ bg, bg = w22.heap.size := ⟨_, rfl⟩
      obtain ⟨W23, hW23⟩ : ∃ W23 : World, W23 = w22.alloc (.cells #[.int .i64 kk] 3) := ⟨_, rfl⟩
      have H23 : Hid (Sep w.heap.size w W23 (blkOb bg 3 #[.int .i64 kk] :: devOb v L21 X :: [blkOb g15 30 #[.int .i64 0, .int .i64 0, .int .i64 0, .int .i64 0, .int .i64 0, .int .i64 0, .int .i64 0, .int .i64 0], blkOb g13 30 #[.int .i64 0, .int .i64 0, .int .i64 0, .int .i64 0, .int .i64 0, .int .i64 0, .int .i64 0, .int .i64 0], blkOb g10 30 #[.int .i64 k0, .int .i64 k1, .int .i64 k2, .int .i64 k3, .int .i64 k4, .int .i64 k5, .int .i64 k6, .int .i64 k7], blkOb g9 26 #[.int .i64 d0, .int .i64 d1, .int .i64 d2, .int .i64 d3, .int .i64 d4, .int .i64 d5, .int .i64 d6], blkOb g8 26 #[.int .i64 (n : Int), .int .i64 (sz : Int), .int .i64 re, .int .i64 wk, .int .i64 ke, .int .i64 va, .int .i64 po]])) := by
        show Sep _ _ _ _
        rw [hW23]
        exact H22.out.newBlk bg _ _ hbg
      have CM := Lib.hid (lt_arm H23.out (AllCells.cons (cellOb_blk _ _ _) (AllCells.cons (cellOb_blk _ _ _) (AllCells.cons (cellOb_blk _ _ _) (AllCells.cons (cellOb_blk _ _ _) (AllCells.cons (cellOb_blk _ _ _) AllCells.nil))))) 0 false (by omega) HRF.out.armE)
      rw [HRF.out.arm] at CM
      go_wp2_with fail
      rw [← hbg, ← hW23]
      clear hbg hW23
      refine CM.out.mono ?_
      rintro e w24 ⟨rfl, L24, hs⟩
      have H24 := Lib.hid hs
      clear hs CM
      go_wp2_with fail
      refine (lt_down H24.out true HRF.out.down).mono ?_
      rintro e w25 ⟨rfl, hs⟩
      have H25 := Lib.hid hs
      clear hs
      go_wp2_with fail
      refine (lt_adv H25.out (AllCells.cons (cellOb_blk _ _ _) (AllCells.cons (cellOb_blk _ _ _) (AllCells.cons (cellOb_blk _ _ _) (AllCells.cons (cellOb_blk _ _ _) (AllCells.cons (cellOb_blk _ _ _) AllCells.nil))))) hops2.out (3 + m) 2 0 0 0 0 0 0 0 0 (adv_bad X2 HN1.out)).mono ?_
      rintro e w26 ⟨rfl, L26, hs⟩
      have H26 := Lib.hid hs
      clear hs
      go_wp2_with fail
      refine (lt_adv H26.out (AllCells.cons (cellOb_blk _ _ _) (AllCells.cons (cellOb_blk _ _ _) (AllCells.cons (cellOb_blk _ _ _) (AllCells.cons (cellOb_blk _ _ _) (AllCells.cons (cellOb_blk _ _ _) AllCells.nil))))) hops2.out 1 13 0 0 0 0 0 0 0 0 (adv_down HRF.out.down (.inl rfl))).mono ?_
      rintro e w27 ⟨rfl, L27, hs⟩
      have H27 := Lib.hid hs
      clear hs
      go_wp2_with fail
      refine (lt_read H27.out 13 0 0 0 0 0 0 0 0 0 (by rw [read_down HRF.out.down]; exact ⟨⟨rfl, rfl⟩, rfl⟩)).mono ?_
      rintro e w28 ⟨rfl, hs⟩
      have H28 := Lib.hid hs
      clear hs
      obtain ⟨g17, hg17⟩ : ∃ g17, g17 = w28.heap.size := ⟨_, rfl⟩
      obtain ⟨W28, hW28⟩ : ∃ W28 : World, W28 = w28.alloc (.cells #[.int .i64 0, .int .i64 0, .int .i64 0, .int .i64 0, .int .i64 0, .int .i64 0, .int .i64 0, .int .i64 0] 30) := ⟨_, rfl⟩
      have H28b : Hid (Sep w.heap.size w W28 (devOb v L27 X2 :: [blkOb g17 30 #[.int .i64 0, .int .i64 0, .int .i64 0, .int .i64 0, .int .i64 0, .int .i64 0, .int .i64 0, .int .i64 0], blkOb g15 30 #[.int .i64 0, .int .i64 0, .int .i64 0, .int .i64 0, .int .i64 0, .int .i64 0, .int .i64 0, .int .i64 0], blkOb g13 30 #[.int .i64 0, .int .i64 0, .int .i64 0, .int .i64 0, .int .i64 0, .int .i64 0, .int .i64 0, .int .i64 0], blkOb g10 30 #[.int .i64 k0, .int .i64 k1, .int .i64 k2, .int .i64 k3, .int .i64 k4, .int .i64 k5, .int .i64 k6, .int .i64 k7], blkOb g9 26 #[.int .i64 d0, .int .i64 d1, .int .i64 d2, .int .i64 d3, .int .i64 d4, .int .i64 d5, .int .i64 d6], blkOb g8 26 #[.int .i64 (n : Int), .int .i64 (sz : Int), .int .i64 re, .int .i64 wk, .int .i64 ke, .int .i64 va, .int .i64 po]])) := by
        show Sep _ _ _ _
        rw [hW28]
        exact (H28.out.newBlk g17 30 #[.int .i64 0, .int .i64 0, .int .i64 0, .int .i64 0, .int .i64 0, .int .i64 0, .int .i64 0, .int .i64 0] hg17).perm (.swap _ _ _)
      go_upto_region 26 with fail
      rw [← hg17, ← hW28]
      clear hg17 hW28
      have kg9 : Blk W28 g9 26 #[.int .i64 d0, .int .i64 d1, .int .i64 d2, .int .i64 d3, .int .i64 d4, .int .i64 d5, .int .i64 d6] := H28b.out.get (.tail _ (.tail _ (.tail _ (.tail _ (.tail _ (.head _))))))
      have q39 : W28.cell? ⟨g9, 0, none⟩ = some (.int .i64 d0) := kg9.cell 0
      have q40 : W28.cell? ⟨g9, 1, none⟩ = some (.int .i64 d1) := kg9.cell 1
      have q41 : W28.cell? ⟨g9, 2, none⟩ = some (.int .i64 d2) := kg9.cell 2
      have q42 : W28.cell? ⟨g9, 3, none⟩ = some (.int .i64 d3) := kg9.cell 3
      have q43 : W28.cell? ⟨g9, 4, none⟩ = some (.int .i64 d4) := kg9.cell 4
      have q44 : W28.cell? ⟨g9, 5, none⟩ = some (.int .i64 d5) := kg9.cell 5
      have q45 : W28.cell? ⟨g9, 6, none⟩ = some (.int .i64 d6) := kg9.cell 6
      clear kg9
      go_wp2_with fail
      refine (lt_begin H28b.out (AllCells.cons (cellOb_blk _ _ _) (AllCells.cons (cellOb_blk _ _ _) (AllCells.cons (cellOb_blk _ _ _) (AllCells.cons (cellOb_blk _ _ _) (AllCells.cons (cellOb_blk _ _ _) (AllCells.cons (cellOb_blk _ _ _) AllCells.nil)))))) hops2.out d0 d1 d2 d3 d4 d5 d6 2 HWF.out.2.1 HBX2.out).mono ?_
      rintro e w29 ⟨rfl, L29, hs⟩
      have H29 := Lib.hid hs
      clear hs
      clear q39 q40 q41 q42 q43 q44 q45
      have kg8 : Blk w29 g8 26 #[.int .i64 (n : Int), .int .i64 (sz : Int), .int .i64 re, .int .i64 wk, .int .i64 ke, .int .i64 va, .int .i64 po] := H29.out.get (.tail _ (.tail _ (.tail _ (.tail _ (.tail _ (.tail _ (.head _)))))))
      have q46 : w29.cell? ⟨g8, 0, none⟩ = some (.int .i64 (n : Int)) := kg8.cell 0
      have q47 : w29.cell? ⟨g8, 1, none⟩ = some (.int .i64 (sz : Int)) := kg8.cell 1
      have q48 : w29.cell? ⟨g8, 2, none⟩ = some (.int .i64 re) := kg8.cell 2
      have q49 : w29.cell? ⟨g8, 3, none⟩ = some (.int .i64 wk) := kg8.cell 3
      have q50 : w29.cell? ⟨g8, 4, none⟩ = some (.int .i64 ke) := kg8.cell 4
      have q51 : w29.cell? ⟨g8, 5, none⟩ = some (.int .i64 va) := kg8.cell 5
      have q52 : w29.cell? ⟨g8, 6, none⟩ = some (.int .i64 po) := kg8.cell 6
      clear kg8
      go_wp2_with fail
      refine (lt_begin H29.out (AllCells.cons (cellOb_blk _ _ _) (AllCells.cons (cellOb_blk _ _ _) (AllCells.cons (cellOb_blk _ _ _) (AllCells.cons (cellOb_blk _ _ _) (AllCells.cons (cellOb_blk _ _ _) (AllCells.cons (cellOb_blk _ _ _) AllCells.nil)))))) hops2.out (n : Int) (sz : Int) re wk ke va po 13 HWF.out.1 HBD.out).mono ?_
      rintro e w30 ⟨rfl, L30, hs⟩
      have H30 := Lib.hid hs
      clear hs
      clear q46 q47 q48 q49 q50 q51 q52
      have kg10 : Blk w30 g10 30 #[.int .i64 k0, .int .i64 k1, .int .i64 k2, .int .i64 k3, .int .i64 k4, .int .i64 k5, .int .i64 k6, .int .i64 k7] := H30.out.get (.tail _ (.tail _ (.tail _ (.tail _ (.head _)))))
      have q53 : w30.cell? ⟨g10, 0, none⟩ = some (.int .i64 k0) := kg10.cell 0
      have q54 : w30.cell? ⟨g10, 1, none⟩ = some (.int .i64 k1) := kg10.cell 1
      have q55 : w30.cell? ⟨g10, 2, none⟩ = some (.int .i64 k2) := kg10.cell 2
      have q56 : w30.cell? ⟨g10, 3, none⟩ = some (.int .i64 k3) := kg10.cell 3
      have q57 : w30.cell? ⟨g10, 4, none⟩ = some (.int .i64 k4) := kg10.cell 4
      have q58 : w30.cell? ⟨g10, 5, none⟩ = some (.int .i64 k5) := kg10.cell 5
      have q59 : w30.cell? ⟨g10, 6, none⟩ = some (.int .i64 k6) := kg10.cell 6
      have q60 : w30.cell? ⟨g10, 7, none⟩ = some (.int .i64 k7) := kg10.cell 7
      clear kg10
      go_wp2_with fail
      refine (lt_write H30.out (AllCells.cons (cellOb_blk _ _ _) (AllCells.cons (cellOb_blk _ _ _) (AllCells.cons (cellOb_blk _ _ _) (AllCells.cons (cellOb_blk _ _ _) (AllCells.cons (cellOb_blk _ _ _) (AllCells.cons (cellOb_blk _ _ _) AllCells.nil)))))) hops2.out k0 k1 k2 k3 k4 k5 k6 k7 2 HWF.out.2.2 HWX2.out).mono ?_
      rintro e w31 ⟨rfl, L31, hs⟩
      have H31 := Lib.hid hs
      clear hs
      clear q53 q54 q55 q56 q57 q58 q59 q60
      have kg8 : Blk w31 g8 26 #[.int .i64 (n : Int), .int .i64 (sz : Int), .int .i64 re, .int .i64 wk, .int .i64 ke, .int .i64 va, .int .i64 po] := H31.out.get (.tail _ (.tail _ (.tail _ (.tail _ (.tail _ (.tail _ (.head _)))))))
      have q61 : w31.cell? ⟨g8, 0, none⟩ = some (.int .i64 (n : Int)) := kg8.cell 0
      have q62 : w31.cell? ⟨g8, 1, none⟩ = some (.int .i64 (sz : Int)) := kg8.cell 1
      have q63 : w31.cell? ⟨g8, 2, none⟩ = some (.int .i64 re) := kg8.cell 2
      have q64 : w31.cell? ⟨g8, 3, none⟩ = some (.int .i64 wk) := kg8.cell 3
      have q65 : w31.cell? ⟨g8, 4, none⟩ = some (.int .i64 ke) := kg8.cell 4
      have q66 : w31.cell? ⟨g8, 5, none⟩ = some (.int .i64 va) := kg8.cell 5
      have q67 : w31.cell? ⟨g8, 6, none⟩ = some (.int .i64 po) := kg8.cell 6
      clear kg8
      go_wp2_with fail
      refine (lt_write H31.out (AllCells.cons (cellOb_blk _ _ _) (AllCells.cons (cellOb_blk _ _ _) (AllCells.cons (cellOb_blk _ _ _) (AllCells.cons (cellOb_blk _ _ _) (AllCells.cons (cellOb_blk _ _ _) (AllCells.cons (cellOb_blk _ _ _) AllCells.nil)))))) hops2.out 3 (n : Int) (sz : Int) re wk ke va po 13 HW3.out HWD.out).mono ?_
      rintro e w32 ⟨rfl, L32, hs⟩
      have H32 := Lib.hid hs
      clear hs
      clear q61 q62 q63 q64 q65 q66 q67
      have kg8 : Blk w32 g8 26 #[.int .i64 (n : Int), .int .i64 (sz : Int), .int .i64 re, .int .i64 wk, .int .i64 ke, .int .i64 va, .int .i64 po] := H32.out.get (.tail _ (.tail _ (.tail _ (.tail _ (.tail _ (.tail _ (.head _)))))))
      have q68 : w32.cell? ⟨g8, 0, none⟩ = some (.int .i64 (n : Int)) := kg8.cell 0
      have q69 : w32.cell? ⟨g8, 1, none⟩ = some (.int .i64 (sz : Int)) := kg8.cell 1
      have q70 : w32.cell? ⟨g8, 2, none⟩ = some (.int .i64 re) := kg8.cell 2
      have q71 : w32.cell? ⟨g8, 3, none⟩ = some (.int .i64 wk) := kg8.cell 3
      have q72 : w32.cell? ⟨g8, 4, none⟩ = some (.int .i64 ke) := kg8.cell 4
      have q73 : w32.cell? ⟨g8, 5, none⟩ = some (.int .i64 va) := kg8.cell 5
      have q74 : w32.cell? ⟨g8, 6, none⟩ = some (.int .i64 po) := kg8.cell 6
      clear kg8
      obtain ⟨g20, hg20⟩ : ∃ g20, g20 = w32.heap.size := ⟨_, rfl⟩
      obtain ⟨W32, hW32⟩ : ∃ W32 : World, W32 = w32.alloc (.cells #[.int .i64 1099511627776, .int .i64 (n : Int), .int .i64 (sz : Int), .int .i64 re, .int .i64 wk, .int .i64 ke, .int .i64 va, .int .i64 po] 30) := ⟨_, rfl⟩
      have H32b : Hid (Sep w.heap.size w W32 (devOb v L32 X2 :: [blkOb g20 30 #[.int .i64 1099511627776, .int .i64 (n : Int), .int .i64 (sz : Int), .int .i64 re, .int .i64 wk, .int .i64 ke, .int .i64 va, .int .i64 po], blkOb g17 30 #[.int .i64 0, .int .i64 0, .int .i64 0, .int .i64 0, .int .i64 0, .int .i64 0, .int .i64 0, .int .i64 0], blkOb g15 30 #[.int .i64 0, .int .i64 0, .int .i64 0, .int .i64 0, .int .i64 0, .int .i64 0, .int .i64 0, .int .i64 0], blkOb g13 30 #[.int .i64 0, .int .i64 0, .int .i64 0, .int .i64 0, .int .i64 0, .int .i64 0, .int .i64 0, .int .i64 0], blkOb g10 30 #[.int .i64 k0, .int .i64 k1, .int .i64 k2, .int .i64 k3, .int .i64 k4, .int .i64 k5, .int .i64 k6, .int .i64 k7], blkOb g9 26 #[.int .i64 d0, .int .i64 d1, .int .i64 d2, .int .i64 d3, .int .i64 d4, .int .i64 d5, .int .i64 d6], blkOb g8 26 #[.int .i64 (n : Int), .int .i64 (sz : Int), .int .i64 re, .int .i64 wk, .int .i64 ke, .int .i64 va, .int .i64 po]])) := by
        show Sep _ _ _ _
        rw [hW32]
        exact (H32.out.newBlk g20 30 #[.int .i64 1099511627776, .int .i64 (n : Int), .int .i64 (sz : Int), .int .i64 re, .int .i64 wk, .int .i64 ke, .int .i64 va, .int .i64 po] hg20).perm (.swap _ _ _)
      go_upto_region 29 with fail
      rw [← hg20, ← hW32]
      clear hg20 hW32
      clear q68 q69 q70 q71 q72 q73 q74
      go_wp2_with fail
      refine (sep_vrestart H32b.out).mono ?_
      rintro e w33 ⟨rfl, hs⟩
      have H33 := Lib.hid hs
      clear hs
      have kg20 : Blk w33 g20 30 #[.int .i64 1099511627776, .int .i64 (n : Int), .int .i64 (sz : Int), .int .i64 re, .int .i64 wk, .int .i64 ke, .int .i64 va, .int .i64 po] := H33.out.get (.tail _ (.head _))
      have q75 : w33.cell? ⟨g20, 0, none⟩ = some (.int .i64 1099511627776) := kg20.cell 0
      have q76 : w33.cell? ⟨g20, 1, none⟩ = some (.int .i64 (n : Int)) := kg20.cell 1
      have q77 : w33.cell? ⟨g20, 2, none⟩ = some (.int .i64 (sz : Int)) := kg20.cell 2
      have q78 : w33.cell? ⟨g20, 3, none⟩ = some (.int .i64 re) := kg20.cell 3
      have q79 : w33.cell? ⟨g20, 4, none⟩ = some (.int .i64 wk) := kg20.cell 4
      have q80 : w33.cell? ⟨g20, 5, none⟩ = some (.int .i64 ke) := kg20.cell 5
      have q81 : w33.cell? ⟨g20, 6, none⟩ = some (.int .i64 va) := kg20.cell 6
      have q82 : w33.cell? ⟨g20, 7, none⟩ = some (.int .i64 po) := kg20.cell 7
      clear kg20
      go_wp2_with fail
      refine (lt_write H33.out (AllCells.cons (cellOb_blk _ _ _) (AllCells.cons (cellOb_blk _ _ _) (AllCells.cons (cellOb_blk _ _ _) (AllCells.cons (cellOb_blk _ _ _) (AllCells.cons (cellOb_blk _ _ _) (AllCells.cons (cellOb_blk _ _ _) (AllCells.cons (cellOb_blk _ _ _) AllCells.nil))))))) hops3.out 1099511627776 (n : Int) (sz : Int) re wk ke va po 0 HWL.out HRF.out.last).mono ?_
      rintro e w34 ⟨rfl, L34, hs⟩
      have H34 := Lib.hid hs
      clear hs
      clear q75 q76 q77 q78 q79 q80 q81 q82
      go_wp2_with fail
      refine (lt_adv H34.out (AllCells.cons (cellOb_blk _ _ _) (AllCells.cons (cellOb_blk _ _ _) (AllCells.cons (cellOb_blk _ _ _) (AllCells.cons (cellOb_blk _ _ _) (AllCells.cons (cellOb_blk _ _ _) (AllCells.cons (cellOb_blk _ _ _) (AllCells.cons (cellOb_blk _ _ _) AllCells.nil))))))) hops4.out 1 16 0 0 0 0 0 0 0 0 HRF.out.adv).mono ?_
      rintro e w35 ⟨rfl, L35, hs⟩
      have H35 := Lib.hid hs
      clear hs
      obtain ⟨g21, hg21⟩ : ∃ g21, g21 = w35.heap.size := ⟨_, rfl⟩
      obtain ⟨W35, hW35⟩ : ∃ W35 : World, W35 = w35.alloc (.cells #[.int .i64 0, .int .i64 0, .int .i64 0, .int .i64 0, .int .i64 0, .int .i64 0, .int .i64 0, .int .i64 0] 30) := ⟨_, rfl⟩
      have H35b : Hid (Sep w.heap.size w W35 (devOb v L35 X4 :: [blkOb g21 30 #[.int .i64 0, .int .i64 0, .int .i64 0, .int .i64 0, .int .i64 0, .int .i64 0, .int .i64 0, .int .i64 0], blkOb g20 30 #[.int .i64 1099511627776, .int .i64 (n : Int), .int .i64 (sz : Int), .int .i64 re, .int .i64 wk, .int .i64 ke, .int .i64 va, .int .i64 po], blkOb g17 30 #[.int .i64 0, .int .i64 0, .int .i64 0, .int .i64 0, .int .i64 0, .int .i64 0, .int .i64 0, .int .i64 0], blkOb g15 30 #[.int .i64 0, .int .i64 0, .int .i64 0, .int .i64 0, .int .i64 0, .int .i64 0, .int .i64 0, .int .i64 0], blkOb g13 30 #[.int .i64 0, .int .i64 0, .int .i64 0, .int .i64 0, .int .i64 0, .int .i64 0, .int .i64 0, .int .i64 0], blkOb g10 30 #[.int .i64 k0, .int .i64 k1, .int .i64 k2, .int .i64 k3, .int .i64 k4, .int .i64 k5, .int .i64 k6, .int .i64 k7], blkOb g9 26 #[.int .i64 d0, .int .i64 d1, .int .i64 d2, .int .i64 d3, .int .i64 d4, .int .i64 d5, .int .i64 d6], blkOb g8 26 #[.int .i64 (n : Int), .int .i64 (sz : Int), .int .i64 re, .int .i64 wk, .int .i64 ke, .int .i64 va, .int .i64 po]])) := by
        show Sep _ _ _ _
        rw [hW35]
        exact (H35.out.newBlk g21 30 #[.int .i64 0, .int .i64 0, .int .i64 0, .int .i64 0, .int .i64 0, .int .i64 0, .int .i64 0, .int .i64 0] hg21).perm (.swap _ _ _)
      go_upto_region 32 with fail
      rw [← hg21, ← hW35]
      clear hg21 hW35
      go_wp2_with fail
      refine (lt_read H35b.out 0 0 1099511627776 (n : Int) (sz : Int) re wk ke va po (by rw [HRF.out.read]; exact ⟨⟨rfl, rfl⟩, rfl⟩)).mono ?_
      rintro e w36 ⟨rfl, hs⟩
      have H36 := Lib.hid hs
      clear hs
      obtain ⟨g22, hg22⟩ : ∃ g22, g22 = w36.heap.size := ⟨_, rfl⟩
      obtain ⟨W36, hW36⟩ : ∃ W36 : World, W36 = w36.alloc (.cells #[.int .i64 1099511627776, .int .i64 (n : Int), .int .i64 (sz : Int), .int .i64 re, .int .i64 wk, .int .i64 ke, .int .i64 va, .int .i64 po] 30) := ⟨_, rfl⟩
      have H36b : Hid (Sep w.heap.size w W36 (devOb v L35 X4 :: [blkOb g22 30 #[.int .i64 1099511627776, .int .i64 (n : Int), .int .i64 (sz : Int), .int .i64 re, .int .i64 wk, .int .i64 ke, .int .i64 va, .int .i64 po], blkOb g21 30 #[.int .i64 0, .int .i64 0, .int .i64 0, .int .i64 0, .int .i64 0, .int .i64 0, .int .i64 0, .int .i64 0], blkOb g20 30 #[.int .i64 1099511627776, .int .i64 (n : Int), .int .i64 (sz : Int), .int .i64 re, .int .i64 wk, .int .i64 ke, .int .i64 va, .int .i64 po], blkOb g17 30 #[.int .i64 0, .int .i64 0, .int .i64 0, .int .i64 0, .int .i64 0, .int .i64 0, .int .i64 0, .int .i64 0], blkOb g15 30 #[.int .i64 0, .int .i64 0, .int .i64 0, .int .i64 0, .int .i64 0, .int .i64 0, .int .i64 0, .int .i64 0], blkOb g13 30 #[.int .i64 0, .int .i64 0, .int .i64 0, .int .i64 0, .int .i64 0, .int .i64 0, .int .i64 0, .int .i64 0], blkOb g10 30 #[.int .i64 k0, .int .i64 k1, .int .i64 k2, .int .i64 k3, .int .i64 k4, .int .i64 k5, .int .i64 k6, .int .i64 k7], blkOb g9 26 #[.int .i64 d0, .int .i64 d1, .int .i64 d2, .int .i64 d3, .int .i64 d4, .int .i64 d5, .int .i64 d6], blkOb g8 26 #[.int .i64 (n : Int), .int .i64 (sz : Int), .int .i64 re, .int .i64 wk, .int .i64 ke, .int .i64 va, .int .i64 po]])) := by
        show Sep _ _ _ _
        rw [hW36]
        exact (H36.out.newBlk g22 30 #[.int .i64 1099511627776, .int .i64 (n : Int), .int .i64 (sz : Int), .int .i64 re, .int .i64 wk, .int .i64 ke, .int .i64 va, .int .i64 po] hg22).perm (.swap _ _ _)
      go_upto_region 33 with fail
      rw [← hg22, ← hW36]
      clear hg22 hW36
      have kg21 : Blk W36 g21 30 #[.int .i64 0, .int .i64 0, .int .i64 0, .int .i64 0, .int .i64 0, .int .i64 0, .int .i64 0, .int .i64 0] := H36b.out.get (.tail _ (.tail _ (.head _)))
      have q83 : W36.cell? ⟨g21, 0, none⟩ = some (.int .i64 0) := kg21.cell 0
      have q84 : W36.cell? ⟨g21, 1, none⟩ = some (.int .i64 0) := kg21.cell 1
      have q85 : W36.cell? ⟨g21, 2, none⟩ = some (.int .i64 0) := kg21.cell 2
      have q86 : W36.cell? ⟨g21, 3, none⟩ = some (.int .i64 0) := kg21.cell 3
      have q87 : W36.cell? ⟨g21, 4, none⟩ = some (.int .i64 0) := kg21.cell 4
      have q88 : W36.cell? ⟨g21, 5, none⟩ = some (.int .i64 0) := kg21.cell 5
      have q89 : W36.cell? ⟨g21, 6, none⟩ = some (.int .i64 0) := kg21.cell 6
      have q90 : W36.cell? ⟨g21, 7, none⟩ = some (.int .i64 0) := kg21.cell 7
      clear kg21
      have kg22 : Blk W36 g22 30 #[.int .i64 1099511627776, .int .i64 (n : Int), .int .i64 (sz : Int), .int .i64 re, .int .i64 wk, .int .i64 ke, .int .i64 va, .int .i64 po] := H36b.out.get (.tail _ (.head _))
      have q91 : W36.cell? ⟨g22, 0, none⟩ = some (.int .i64 1099511627776) := kg22.cell 0
      have q92 : W36.cell? ⟨g22, 1, none⟩ = some (.int .i64 (n : Int)) := kg22.cell 1
      have q93 : W36.cell? ⟨g22, 2, none⟩ = some (.int .i64 (sz : Int)) := kg22.cell 2
      have q94 : W36.cell? ⟨g22, 3, none⟩ = some (.int .i64 re) := kg22.cell 3
      have q95 : W36.cell? ⟨g22, 4, none⟩ = some (.int .i64 wk) := kg22.cell 4
      have q96 : W36.cell? ⟨g22, 5, none⟩ = some (.int .i64 ke) := kg22.cell 5
      have q97 : W36.cell? ⟨g22, 6, none⟩ = some (.int .i64 va) := kg22.cell 6
      have q98 : W36.cell? ⟨g22, 7, none⟩ = some (.int .i64 po) := kg22.cell 7
      clear kg22
      have kg20 : Blk W36 g20 30 #[.int .i64 1099511627776, .int .i64 (n : Int), .int .i64 (sz : Int), .int .i64 re, .int .i64 wk, .int .i64 ke, .int .i64 va, .int .i64 po] := H36b.out.get (.tail _ (.tail _ (.tail _ (.head _))))
      have q99 : W36.cell? ⟨g20, 0, none⟩ = some (.int .i64 1099511627776) := kg20.cell 0
      have q100 : W36.cell? ⟨g20, 1, none⟩ = some (.int .i64 (n : Int)) := kg20.cell 1
      have q101 : W36.cell? ⟨g20, 2, none⟩ = some (.int .i64 (sz : Int)) := kg20.cell 2
      have q102 : W36.cell? ⟨g20, 3, none⟩ = some (.int .i64 re) := kg20.cell 3
      have q103 : W36.cell? ⟨g20, 4, none⟩ = some (.int .i64 wk) := kg20.cell 4
      have q104 : W36.cell? ⟨g20, 5, none⟩ = some (.int .i64 ke) := kg20.cell 5
      have q105 : W36.cell? ⟨g20, 6, none⟩ = some (.int .i64 va) := kg20.cell 6
      have q106 : W36.cell? ⟨g20, 7, none⟩ = some (.int .i64 po) := kg20.cell 7
      clear kg20
      go_wp2_with fail
      refine (works_any _).mono ?_
      rintro e w37 ⟨rfl, hb⟩
      have H37 := Lib.hid (H36b.out.below hb)
      clear hb
      clear q83 q84 q85 q86 q87 q88 q89 q90 q91 q92 q93 q94 q95 q96 q97 q98 q99 q100 q101 q102 q103 q104 q105 q106
      go_wp2_with fail
      go_ret
      exact ⟨rfl, H37.out.bel⟩
theorem DualcopyRefuses_walk (v0 v1 v2 : Value) (w : World) (h0 : ArgIn Try.prog w 22 v0) (h1 : ArgIn Try.prog w 5 v1) (h2 : ArgIn Try.prog w 23 v2) :
    Calls Try.prog 3 #[v0, v1, v2] w fun e w' => e = .returned (.bool true) ∧ Below w.heap.size w w' := by
  obtain ⟨b, rfl⟩ := seven_arg h0
  obtain ⟨y1, rfl, k1⟩ := h1.int (k := .u8) Try.underlying5
  obtain ⟨m, rfl, k2⟩ := h2.int (k := .u16) Try.underlying23
  obtain ⟨wh, rfl⟩ := u8_of_wf k1
  obtain ⟨hm0, hm1⟩ := u16_of_wf k2
  obtain ⟨n, hn, hn4, hn9⟩ := smallC_slots b
  obtain ⟨sz, hz, hs1, hs2⟩ := smallC_size b
  obtain ⟨c, hc⟩ : ∃ c, smallC b = c := ⟨_, rfl⟩
  rw [hc] at hn hz
  obtain ⟨e0, e1, re, wk, ke, va, po⟩ := c
  dsimp only at hn hz
  subst hn hz
  have i1 := wh.isLt
  have q1 : n8 wh % 5 = ((wh.toNat % 5 : Nat) : Int) := by rw [n8_nat]; omega
  exact DualcopyRefuses_k b n sz re wk ke va po hc hn4 hn9 hs1 hs2 wh _ q1 (by omega) m hm0 hm1 w
end Go.Proofs.Ytnopljanpjmbgaa

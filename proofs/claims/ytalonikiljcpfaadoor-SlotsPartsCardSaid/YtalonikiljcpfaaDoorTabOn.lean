/-
  A table's iterator. Condition: the table is as New makes it.
-/
import Derived.Test.YtalonikiljcpfaaDoorSetOn
import Derived.Test.YtalonikiljcpfaaDoorTabLoop
import Derived.Deep.RegionHeld3
namespace Go.Proofs.YtalonikiljcpfaaDoor
open Go.RowKit Go.Shelf
set_option linter.unusedVariables false
attribute [local go_sem] Oper.semAt_some
theorem round_wide {m m' l' : Nat} {P : Program} {l : Nat} {f : FuncId} {tmps : Array Value} {assign body : Code} {w : World} {R : Ending → World → Prop} (h : RoundIn Fence.wide m P l f tmps assign body w R) : RoundIn (Fence.wide.inRound l') m' P l f tmps assign body w R :=
  ⟨h.1, fun c cs _ => h.2 c cs (room_wide _)⟩
theorem grown_below {w w' : World} (h : Below w.heap.size w w') : w.grownBy w' none := ⟨h.os, h.tape, h.output, h.size, fun k hk _ => h.block k hk⟩
theorem of_below {β : Type} {B : Nat} {I : β → World → Prop} (h : OwnFrom B I) {s : β} {W W' : World} (hs : I s W) (hb : Below W.heap.size W W') : I s W' := h s W W' none hs (grown_below hb) (fun r e => by cases e)
set_option maxHeartbeats 400000 in
theorem in_any (p0 : Option Addr) (s : Int) (w : World) :
    Calls Tryd.prog 26 #[.pointer p0, .int .i64 s] w fun e w' => e = .returned (.func (.func 46) #[] #[.pointer (some ⟨w.heap.size, 0, none⟩), .pointer (some ⟨w.heap.size + 1, 0, none⟩)]) ∧ w' = (w.alloc (.cells #[.pointer p0] 24)).alloc (.cells #[.int .i64 s] 3) := by
  go_enter Tryd.func26, Tryd.ntmps26
  go_wp2_with fail
  go_ret
  exact ⟨rfl, rfl⟩
set_option maxRecDepth 100000 in
set_option maxHeartbeats 8000000 in
theorem in1_on (B1 B2 g r s : Nat) (p : Nat → Nat) (T : List Nat) (hs : s < 5) (I : List Nat → World → Prop) (w : World) (hI : ∀ V, I [] V → V.cell? ⟨B1, 0, none⟩ = some (.pointer (some ⟨g, 0, none⟩)) ∧ V.cell? ⟨B2, 0, none⟩ = some (.int .i64 (s : Int)) ∧ IsTab V g p r T) :
    SeqOn Fence.wide 4 Tryd.prog 46 #[.pointer (some ⟨B1, 0, none⟩), .pointer (some ⟨B2, 0, none⟩)] (fun x : Nat => #[Value.int .i64 (x : Int)]) I (fun pre x => pre = slotsTo (memb T s) x ∧ inL (memb T s) x = true) (fun xs => xs = slotsOf (memb T s)) (fun pre => pre <+: slotsOf (memb T s)) w := by
  rintro l J Jx W hbW hJI hOJ hOX hY h0
  obtain ⟨c1, c2, ht⟩ := hI _ (hJI _ _ h0)
  obtain ⟨W1, hW1⟩ : ∃ W1, W1 = W.alloc (.cells #[.func (.yield l) #[] #[]] 71) := ⟨_, rfl⟩
  have hb1 : Below W.heap.size W W1 := by rw [hW1]; exact (Below.refl _ _).alloc (Nat.le_refl _) _
  have k1 : Blk W1 W.heap.size 71 #[.func (.yield l) #[] #[]] := by rw [hW1]; exact Blk.new _ _ _
  have ht1 := ht.below hb1
  have d1 : W1.cell? ⟨B1, 0, none⟩ = some (.pointer (some ⟨g, 0, none⟩)) := (hb1.cell (p := ⟨B1, 0, none⟩) (block_lt_of_cell c1)).trans c1
  have d2 : W1.cell? ⟨B2, 0, none⟩ = some (.int .i64 (s : Int)) := (hb1.cell (p := ⟨B2, 0, none⟩) (block_lt_of_cell c2)).trans c2
  have HV := Lib.hid (tvalid ht1)
  have q0 : W1.cell? ⟨g, 2 + s, none⟩ = some (.pointer (some ⟨p s, 0, none⟩)) := ht1.cellP s hs
  have HC : Hid (Calls Tryd.prog 45 #[.pointer (some ⟨p s, 0, none⟩)] W1.drew fun e w' => ∃ cb, e = .returned (.pointer (some ⟨cb, 0, none⟩)) ∧ HasSet w' cb (memb T s) ∧ W1.heap.size ≤ cb ∧ Below W1.heap.size W1 w') := by
    refine (copy_of (ht1.drew.set s hs)).mono ?_
    rintro e w' ⟨h1, h2, h3⟩
    exact ⟨_, h1, h2, Nat.le_refl _, ((Below.refl _ W1).drew).trans h3⟩
  have HJ := Lib.hid (of_below hOJ h0 hb1)
  have HOJ := Lib.hid hOJ
  have HOX := Lib.hid hOX
  have HY := Lib.hid hY
  have HK1 := Lib.hid k1
  have hWs : W1.heap.size = W.heap.size + 1 := by rw [hW1]; simp
  have HWS := Lib.hid hWs
  clear hJI hOJ hOX hY h0 c1 c2 ht ht1 k1 hI hWs
  refine callsIn_of_wp_marks Tryd.func46 rfl trivial ?_ rfl
  simp only [Tryd.ntmps46, List.size_toArray, List.length_cons, List.length_nil, Nat.reduceAdd, Nat.reduceSub, Array.replicate_succ, Array.replicate_zero, List.push_toArray, List.append_toArray, List.nil_append, List.cons_append]
  rw [hW1] at HV d1 d2
  gi_wp2_with (refine ⟨trivial, ?_⟩; gi_at_call 38; refine (callsIn_wide.2 HV.out).mono ?_; rintro e w' ⟨rfl, rfl⟩)
  rw [← hW1] at d1 d2 ⊢
  clear hW1 HV
  refine wpIn_wide.2 ?_
  go_region_held3 (fun X => X.cell? ⟨B1, 0, none⟩ = some (.pointer (some ⟨g, 0, none⟩)) ∧ X.cell? ⟨B2, 0, none⟩ = some (.int .i64 (s : Int)) ∧ X.cell? ⟨g, 2 + s, none⟩ = some (.pointer (some ⟨p s, 0, none⟩))) (first | (refine ⟨?_, ?_, ?_⟩ <;> assumption) | go_keep)
    (first
      | (go_at_call 45; refine HC.out.mono ?_; rintro e w2 ⟨cb, rfl, hs2, hcb, hb2⟩
         have e1 : w2.cell? ⟨B1, 0, none⟩ = some (.pointer (some ⟨g, 0, none⟩)) := (hb2.cell (p := ⟨B1, 0, none⟩) (block_lt_of_cell d1)).trans d1
         have e2 : w2.cell? ⟨B2, 0, none⟩ = some (.int .i64 (s : Int)) := (hb2.cell (p := ⟨B2, 0, none⟩) (block_lt_of_cell d2)).trans d2
         have e3 : w2.cell? ⟨g, 2 + s, none⟩ = some (.pointer (some ⟨p s, 0, none⟩)) := (hb2.cell (p := ⟨g, 2 + s, none⟩) (block_lt_of_cell q0)).trans q0)
      | (go_at_call 47; refine (all_any _ _).mono ?_; rintro e w3 ⟨rfl, rfl⟩))
  obtain ⟨W3, hW3⟩ : ∃ W3, W3 = w2.alloc (.cells #[.pointer (some ⟨cb, 0, none⟩)] 65) := ⟨_, rfl⟩
  obtain ⟨ab, hab⟩ : ∃ ab, ab = w2.heap.size := ⟨_, rfl⟩
  rw [← hW3, ← hab]
  have h13 : Below W1.heap.size W1 W3 := by rw [hW3]; exact hb2.alloc hb2.size _
  have k3 : Blk W3 ab 65 #[.pointer (some ⟨cb, 0, none⟩)] := by rw [hW3, hab]; exact Blk.new _ _ _
  have s3 : HasSet W3 cb (memb T s) := by rw [hW3]; exact hs2.below ((Below.refl w2.heap.size w2).alloc (Nat.le_refl _) _) hs2.lt
  have k3' : Blk W3 W.heap.size 71 #[.func (.yield l) #[] #[]] := HK1.out.below h13 HK1.out.lt
  have hW3s : W1.heap.size < W3.heap.size := by have := hb2.size; rw [hW3, World.size_alloc]; omega
  have hab1 : W1.heap.size ≤ ab := by rw [hab]; exact hb2.size
  have HJ3 := Lib.hid (of_below HOJ.out HJ.out (by have := h13.mono (show W.heap.size ≤ W1.heap.size by rw [HWS.out]; omega); exact h13))
  clear hW3 e1 e2 e3 d1 d2 q0 hs2 hab hb2 HC
  obtain ⟨I2, hI2⟩ : ∃ I2 : List Nat → World → Prop, I2 = fun pre V => J pre V ∧ Blk V W.heap.size 71 #[.func (.yield l) #[] #[]] ∧ Blk V ab 65 #[.pointer (some ⟨cb, 0, none⟩)] ∧ HasSet V cb (memb T s) := ⟨_, rfl⟩
  gi_wp2
  refine wpIn_rangeFunc_on rfl (by omega) (gf := 62) (lb := #[.pointer (some ⟨ab, 0, none⟩)]) rfl trivial (enters_of Tryd.func62 (by kernel_rfl) rfl)
    (fun pre V => J pre V ∧ Blk V W.heap.size 71 #[.func (.yield l) #[] #[]] ∧ Blk V ab 65 #[.pointer (some ⟨cb, 0, none⟩)] ∧ HasSet V cb (memb T s))
    (fun c pre V => c = .ret ∧ Jx pre V)
    (all1_on 3 (by omega) ab cb (memb T s) _ W3 (fun V hV => ⟨hV.2.2.1.cell 0, hV.2.2.2⟩)) (fun _ => rfl)
    ?hI ?hIx ⟨HJ3.out, k3', k3, s3⟩
    (fun x => { tmps := #[.func (.yield l) #[] #[], .pointer (some ⟨B1, 0, none⟩), .pointer (some ⟨B2, 0, none⟩), .pointer (some ⟨W.heap.size, 0, none⟩), .int .i64 (x : Int), .pointer (some ⟨g, 0, none⟩), .bool true, .bool false, .bool false,
      .int .i64 (s : Int), .bool (decide ((s : Int) < 0)), .bool (decide ((s : Int) < 0)), .bool (decide ((s : Int) < 0)), .int .i64 (s : Int), .bool (decide (5 ≤ (s : Int))), .bool (decide ((s : Int) < 0) || decide (5 ≤ (s : Int))), .pointer (some ⟨g, 0, none⟩),
      .int .i64 (s : Int), .pointer (some ⟨g, 0, none⟩), .pointer (some ⟨g, 2, none⟩), .pointer (some ⟨g, 2 + s, none⟩), .pointer (some ⟨p s, 0, none⟩), .pointer (some ⟨cb, 0, none⟩), .func (.func 62) #[] #[.pointer (some ⟨ab, 0, none⟩)],
      .int .i64 (x : Int), undef, undef, undef, undef], defers := [] }) ?assign ?body ?done ?stop
  case hI =>
    rintro pre V V' row ⟨a1, a2, a3, a4⟩ hg hr
    have ne : ∀ k, k < W3.heap.size → some k ≠ row := fun k hk e => by have := (hr k e.symm).1; omega
    refine ⟨HOJ.out _ _ _ row a1 hg (fun r e => ⟨by have := (hr r e).1; have := HWS.out; omega, (hr r e).2⟩), a2.grown hg (ne _ k3'.lt), a3.grown hg (ne _ k3.lt), ?_⟩
    obtain ⟨b, hb⟩ := a4
    exact ⟨b, Blk.grown hb.blk hg (ne _ s3.lt), hb.pos, hb.le, hb.bits⟩
  case hIx =>
    rintro c pre V V' row ⟨a1, a2⟩ hg hr
    exact ⟨a1, HOX.out _ _ _ row a2 hg (fun r e => ⟨by have := (hr r e).1; have := HWS.out; omega, (hr r e).2⟩)⟩
  case assign =>
    intro l' x V K hK
    gi_wp2
    exact hK
  case body =>
    rintro l' pre x V ⟨a1, a2, a3, a4⟩ hpx hVs
    obtain ⟨fn, tmps, assign, body, hy, hR⟩ := HY.out pre x V a1 hpx
    have y0 : V.cell? ⟨W.heap.size, 0, none⟩ = some (.func (.yield l) #[] #[]) := a2.cell 0
    have A2 := Lib.hid a2
    have A3 := Lib.hid a3
    have A4 := Lib.hid a4
    clear a1 a2 a3 a4 hpx
    try dsimp only at hy
    gi_wp2
    refine (round_wide hR).mono ?_
    rintro e V3 (⟨rfl, hJ3, hk3⟩ | ⟨rfl, hJx3, hk3⟩)
    · have HJ4 := Lib.hid hJ3
      have HK4 := Lib.hid hk3
      clear hJ3 hk3
      gi_wp2
      obtain ⟨b, hb⟩ := A4.out
      refine ⟨HK4.out.more (by have := HWS.out; omega), HJ4.out, HK4.out.at_ A2.out (Nat.le_refl _), HK4.out.at_ A3.out (by have := HWS.out; omega), ⟨b, HK4.out.at_ hb.blk (by have := HWS.out; omega), hb.pos, hb.le, hb.bits⟩⟩
    · have HJ4 := Lib.hid hJx3
      have HK4 := Lib.hid hk3
      clear hJx3 hk3
      gi_wp2
      exact ⟨HK4.out.more (by have := HWS.out; omega), rfl, HJ4.out⟩
  case done =>
    rintro D xs V hD hS ⟨a1, a2, a3, a4⟩ hK
    have HA := Lib.hid a1
    have HK := Lib.hid hK
    clear a1 a2 a3 a4 hK
    gi_wp2
    refine ⟨by simp, .inl ⟨_, _, rfl, run_takeDeferred HK.out, ?_⟩⟩
    exact ⟨_, results_none rfl _ _ _, ⟨_, rfl⟩, .inl ⟨xs, hS, HOJ.out _ _ _ (some D) HA.out (grownBy_putObj' _ D _) (fun r e => by cases e; exact ⟨by have := HWS.out; omega, _, HK.out, rfl⟩)⟩⟩
  case stop =>
    rintro D c pre V hD hpre ⟨rfl, a1⟩ hK
    have HA := Lib.hid a1
    have HK := Lib.hid hK
    clear a1 hK
    gi_wp2
    refine ⟨by simp, .inl ⟨_, _, rfl, run_takeDeferred HK.out, ?_⟩⟩
    exact ⟨_, results_none rfl _ _ _, ⟨_, rfl⟩, .inr ⟨pre, hpre, HOX.out _ _ _ (some D) HA.out (grownBy_putObj' _ D _) (fun r e => by cases e; exact ⟨by have := HWS.out; omega, _, HK.out, rfl⟩)⟩⟩
end Go.Proofs.YtalonikiljcpfaaDoor

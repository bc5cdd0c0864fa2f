/-
  A set that is nil, or was not made by New: its methods; the law's same for it. No condition.
-/
import Derived.Test.YthmkaefpgcjlnaaDoorSetHelp
namespace Go.Proofs.YthmkaefpgcjlnaaDoor
open Go.RowKit Go.Shelf
set_option linter.unusedVariables false
def NoSet (w : World) (p : Option Addr) : Prop := p = none ∨ ∃ g, p = some ⟨g, 0, none⟩ ∧ w.cell? ⟨g, 0, none⟩ = some (.int .i64 0)
theorem NoSet.below {w w' : World} {p : Option Addr} (h : NoSet w p) (hb : Below w.heap.size w w') : NoSet w' p := by
  rcases h with rfl | ⟨g, rfl, hc⟩
  · exact .inl rfl
  · exact .inr ⟨g, rfl, (hb.cell (p := ⟨g, 0, none⟩) (block_lt_of_cell hc)).trans hc⟩
section
variable {w : World} {p : Option Addr} {g : Nat} {L : List Bool}
set_option maxHeartbeats 400000 in
theorem no_valid (h : NoSet w p) :
    Calls Tryd.prog 42 #[.pointer p] w fun e w' => e = .returned (.bool false) ∧ w = w' := by
  rcases h with rfl | ⟨g, rfl, hc⟩
  · go_enter Tryd.func42, Tryd.ntmps42
    go_wp2_with fail
    go_ret
    exact ⟨rfl, rfl⟩
  · go_enter Tryd.func42, Tryd.ntmps42
    go_wp2_with fail
    go_ret
    exact ⟨rfl, rfl⟩
set_option maxHeartbeats 400000 in
theorem no_check (h : NoSet w p) (i : Int) :
    Calls Tryd.prog 41 #[.pointer p, .int .i64 i] w fun e w' => e = .returned (.int .i64 1) ∧ w = w' := by
  have H := Lib.hid h
  clear h
  go_enter Tryd.func41, Tryd.ntmps41
  go_wp2_with fail
  refine (no_valid H.out).mono ?_
  rintro e w' ⟨rfl, rfl⟩
  go_wp2_with fail
  go_ret
  exact ⟨rfl, rfl⟩
set_option maxHeartbeats 400000 in
theorem no_add (h : NoSet w p) (i : Int) :
    Calls Tryd.prog 25 #[.pointer p, .int .i64 i] w fun e w' => e = .returned (.int .i64 1) ∧ w = w' := by
  have H := Lib.hid h
  clear h
  go_enter Tryd.func25, Tryd.ntmps25
  go_wp2_with fail
  refine (no_check H.out i).mono ?_
  rintro e w' ⟨rfl, rfl⟩
  go_wp2_with fail
  go_ret
  exact ⟨rfl, rfl⟩
set_option maxHeartbeats 400000 in
theorem no_remove (h : NoSet w p) (i : Int) :
    Calls Tryd.prog 26 #[.pointer p, .int .i64 i] w fun e w' => e = .returned (.int .i64 1) ∧ w = w' := by
  have H := Lib.hid h
  clear h
  go_enter Tryd.func26, Tryd.ntmps26
  go_wp2_with fail
  refine (no_check H.out i).mono ?_
  rintro e w' ⟨rfl, rfl⟩
  go_wp2_with fail
  go_ret
  exact ⟨rfl, rfl⟩
set_option maxHeartbeats 400000 in
theorem no_has (h : NoSet w p) (i : Int) :
    Calls Tryd.prog 16 #[.pointer p, .int .i64 i] w fun e w' => e = .returned (.bool false) ∧ w = w' := by
  have H := Lib.hid h
  clear h
  go_enter Tryd.func16, Tryd.ntmps16
  go_wp2_with fail
  refine (no_check H.out i).mono ?_
  rintro e w' ⟨rfl, rfl⟩
  go_wp2_with fail
  go_ret
  exact ⟨rfl, rfl⟩
set_option maxHeartbeats 400000 in
theorem no_len (h : NoSet w p) :
    Calls Tryd.prog 21 #[.pointer p] w fun e w' => e = .returned (.int .i64 0) ∧ w = w' := by
  have H := Lib.hid h
  clear h
  go_enter Tryd.func21, Tryd.ntmps21
  go_wp2_with fail
  refine (no_valid H.out).mono ?_
  rintro e w' ⟨rfl, rfl⟩
  go_wp2_with fail
  go_ret
  exact ⟨rfl, rfl⟩
set_option maxHeartbeats 400000 in
theorem no_size (h : NoSet w p) :
    Calls Tryd.prog 23 #[.pointer p] w fun e w' => e = .returned (.int .i64 0) ∧ w = w' := by
  have H := Lib.hid h
  clear h
  go_enter Tryd.func23, Tryd.ntmps23
  go_wp2_with fail
  refine (no_valid H.out).mono ?_
  rintro e w' ⟨rfl, rfl⟩
  go_wp2_with fail
  go_ret
  exact ⟨rfl, rfl⟩
set_option maxHeartbeats 400000 in
theorem no_copy (h : NoSet w p) :
    Calls Tryd.prog 33 #[.pointer p] w fun e w' => e = .returned (.pointer none) ∧ w = w' := by
  have H := Lib.hid h
  clear h
  go_enter Tryd.func33, Tryd.ntmps33
  go_wp2_with fail
  refine (no_valid H.out).mono ?_
  rintro e w' ⟨rfl, rfl⟩
  go_wp2_with fail
  go_ret
  exact ⟨rfl, rfl⟩
set_option maxHeartbeats 400000 in
theorem no_next (h : NoSet w p) (i : Int) :
    Calls Tryd.prog 17 #[.pointer p, .int .i64 i] w fun e w' => e = .returned (.tuple #[.int .i64 0, .bool false]) ∧ w = w' := by
  have H := Lib.hid h
  clear h
  go_enter Tryd.func17, Tryd.ntmps17
  go_wp2_with fail
  refine (no_valid H.out).mono ?_
  rintro e w' ⟨rfl, rfl⟩
  go_wp2_with fail
  go_ret2
  exact ⟨rfl, rfl⟩
set_option maxHeartbeats 400000 in
theorem no_lowest (h : NoSet w p) :
    Calls Tryd.prog 18 #[.pointer p] w fun e w' => e = .returned (.tuple #[.int .i64 0, .bool false]) ∧ w = w' := by
  have H := Lib.hid h
  clear h
  go_enter Tryd.func18, Tryd.ntmps18
  go_wp2_with fail
  refine (no_next H.out 0).mono ?_
  rintro e w' ⟨rfl, rfl⟩
  go_wp2_with fail
  go_ret2
  exact ⟨rfl, rfl⟩
set_option maxHeartbeats 400000 in
theorem no_fits1 (h : NoSet w p) (q : Option Addr) :
    Calls Tryd.prog 44 #[.pointer p, .pointer q] w fun e w' => e = .returned (.int .i64 1) ∧ w = w' := by
  have H := Lib.hid h
  clear h
  go_enter Tryd.func44, Tryd.ntmps44
  go_wp2_with fail
  refine (no_valid H.out).mono ?_
  rintro e w' ⟨rfl, rfl⟩
  go_wp2_with fail
  go_ret
  exact ⟨rfl, rfl⟩
set_option maxHeartbeats 400000 in
theorem no_fits2 (h : HasSet w g L) (h' : NoSet w p) :
    Calls Tryd.prog 44 #[.pointer (some ⟨g, 0, none⟩), .pointer p] w fun e w' => e = .returned (.int .i64 1) ∧ w = w' := by
  have H := Lib.hid h
  have H' := Lib.hid h'
  clear h h'
  go_enter Tryd.func44, Tryd.ntmps44
  go_wp2_with fail
  refine (valid_of H.out).mono ?_
  rintro e w' ⟨rfl, rfl⟩
  go_wp2_with fail
  refine (no_valid H'.out).mono ?_
  rintro e w' ⟨rfl, rfl⟩
  go_wp2_with fail
  go_ret
  exact ⟨rfl, rfl⟩
set_option maxHeartbeats 400000 in
theorem no_union1 (h : NoSet w p) (q : Option Addr) :
    Calls Tryd.prog 19 #[.pointer p, .pointer q] w fun e w' => e = .returned (.int .i64 1) ∧ w = w' := by
  have H := Lib.hid h
  clear h
  go_enter Tryd.func19, Tryd.ntmps19
  go_wp2_with fail
  refine (no_fits1 H.out q).mono ?_
  rintro e w' ⟨rfl, rfl⟩
  go_wp2_with fail
  go_ret
  exact ⟨rfl, rfl⟩
set_option maxHeartbeats 400000 in
theorem no_union2 (h : HasSet w g L) (h' : NoSet w p) :
    Calls Tryd.prog 19 #[.pointer (some ⟨g, 0, none⟩), .pointer p] w fun e w' => e = .returned (.int .i64 1) ∧ w = w' := by
  have H := Lib.hid h
  have H' := Lib.hid h'
  clear h h'
  go_enter Tryd.func19, Tryd.ntmps19
  go_wp2_with fail
  refine (no_fits2 H.out H'.out).mono ?_
  rintro e w' ⟨rfl, rfl⟩
  go_wp2_with fail
  go_ret
  exact ⟨rfl, rfl⟩
set_option maxHeartbeats 400000 in
theorem no_minus1 (h : NoSet w p) (q : Option Addr) :
    Calls Tryd.prog 20 #[.pointer p, .pointer q] w fun e w' => e = .returned (.int .i64 1) ∧ w = w' := by
  have H := Lib.hid h
  clear h
  go_enter Tryd.func20, Tryd.ntmps20
  go_wp2_with fail
  refine (no_fits1 H.out q).mono ?_
  rintro e w' ⟨rfl, rfl⟩
  go_wp2_with fail
  go_ret
  exact ⟨rfl, rfl⟩
set_option maxHeartbeats 400000 in
theorem no_minus2 (h : HasSet w g L) (h' : NoSet w p) :
    Calls Tryd.prog 20 #[.pointer (some ⟨g, 0, none⟩), .pointer p] w fun e w' => e = .returned (.int .i64 1) ∧ w = w' := by
  have H := Lib.hid h
  have H' := Lib.hid h'
  clear h h'
  go_enter Tryd.func20, Tryd.ntmps20
  go_wp2_with fail
  refine (no_fits2 H.out H'.out).mono ?_
  rintro e w' ⟨rfl, rfl⟩
  go_wp2_with fail
  go_ret
  exact ⟨rfl, rfl⟩
end
attribute [local go_sem] Oper.semAt_some
set_option maxRecDepth 100000 in
set_option maxHeartbeats 4000000 in
theorem all1_no (n : Nat) (hn : 1 ≤ n) (l Bn : Nat) (p : Option Addr) (J : List Nat → World → Prop) (Jx : List Nat → World → Prop)
    (W : World) (hBn : W.cell? ⟨Bn, 0, none⟩ = some (.pointer p)) (hL : NoSet W p) (h0 : J [] W) :
    CallsIn Fence.wide n Tryd.prog 46 #[.func (.yield l) #[] #[], .pointer (some ⟨Bn, 0, none⟩)] W fun e W' => (∃ v, e = .returned v) ∧
      ((∃ ys, ys = ([] : List Nat) ∧ J ys W') ∨ (∃ pre, pre <+: ([] : List Nat) ∧ Jx pre W')) := by
  have HL := Lib.hid hL
  clear hL
  refine callsIn_of_wp Tryd.func46 rfl trivial ?_ rfl
  simp only [Tryd.ntmps46, List.size_toArray, List.length_cons, List.length_nil, Nat.reduceAdd, Nat.reduceSub, Array.replicate_succ, Array.replicate_zero, List.push_toArray, List.append_toArray, List.nil_append, List.cons_append]
  gi_wp2_with (refine ⟨trivial, ?_⟩; gi_at_call 42; refine (callsIn_wide.2 (no_valid HL.out)).mono ?_; rintro e w' ⟨rfl, rfl⟩)
  refine bodyPost_ret (results_none rfl _ _ _) rfl ?_
  exact ⟨⟨_, rfl⟩, .inl ⟨_, rfl, h0⟩⟩
theorem all_no_stops (n : Nat) (hn : 1 ≤ n) (Bn : Nat) (p : Option Addr) (Kp : World → World → Prop) (w : World) (hBn : Bn < w.heap.size)
    (hc : w.cell? ⟨Bn, 0, none⟩ = some (.pointer p)) (hL : NoSet w p) :
    SeqStopsK Fence.wide n Tryd.prog 46 #[.pointer (some ⟨Bn, 0, none⟩)] (fun x : Nat => #[Value.int .i64 (x : Int)]) Kp (fun ys => ys = ([] : List Nat)) (fun pre => pre <+: ([] : List Nat)) 0 w := fun l J Jx W hW _ _ hY h0 =>
  all1_no n hn l Bn p J Jx W ((hW.cell (p := ⟨Bn, 0, none⟩) hBn).trans hc) (hL.below hW) h0
set_option maxRecDepth 100000 in
set_option maxHeartbeats 8000000 in
theorem same_no {w : World} {p : Option Addr} (h : NoSet w p) :
    Calls Tryd.prog 14 #[.pointer p, .slice none 0 0] w fun e w' => e = .returned (.bool true) ∧ Below w.heap.size w w' := by
  refine (callsIn_wide (n := 5)).1 ?_
  have H := Lib.hid h
  clear h
  refine callsIn_of_wp_marks Tryd.func14 rfl trivial ?_ rfl
  simp only [Tryd.ntmps14, List.size_toArray, List.length_cons, List.length_nil, Nat.reduceAdd, Nat.reduceSub, Array.replicate_succ, Array.replicate_zero, List.push_toArray, List.append_toArray, List.nil_append, List.cons_append]
  gi_wp2_with (first
    | (refine ⟨trivial, ?_⟩; gi_at_call 27; refine (callsIn_wide.2 (all_any _ _)).mono ?_; rintro e w' ⟨rfl, rfl⟩)
    | (refine ⟨trivial, ?_⟩; gi_at_call 40; refine (callsIn_wide.2 (yields_any _ _ _)).mono ?_; rintro e w' ⟨rfl, rfl⟩))
  obtain ⟨W0, hW0⟩ : ∃ W0 : World, W0 = ((((w.alloc (.cells #[.pointer p] 24)).alloc (.cells #[.slice none 0 0] 29)).alloc (.cells #[.bool false] 4)).alloc (.cells #[.int .i64 0] 3)).alloc (.cells #[.pointer p] 24) := ⟨_, rfl⟩
  rw [← hW0]
  have hB0 : Below w.heap.size w W0 := by rw [hW0]; exact (((((Below.refl w.heap.size w).alloc (Nat.le_refl _) _).alloc (by simp) _).alloc (by simp; omega) _).alloc (by simp; omega) _).alloc (by simp; omega) _
  have hs0 : W0.heap.size = w.heap.size + 5 := by rw [hW0]; simp
  have k2 : Blk W0 w.heap.size 24 #[.pointer p] := by rw [hW0]; exact ((((Blk.new w _ _).alloc _).alloc _).alloc _).alloc _
  have k3 : Blk W0 (w.heap.size + 1) 29 #[.slice none 0 0] := by
    rw [hW0]
    have := (((Blk.new (w.alloc (.cells #[.pointer p] 24)) 29 #[.slice none 0 0]).alloc (.cells #[.bool false] 4)).alloc (.cells #[.int .i64 0] 3)).alloc (.cells #[.pointer p] 24)
    rw [World.size_alloc] at this
    exact this
  have k4 : Blk W0 (w.heap.size + 1 + 1) 4 #[.bool false] := by
    rw [hW0]
    have := ((Blk.new ((w.alloc (.cells #[.pointer p] 24)).alloc (.cells #[.slice none 0 0] 29)) 4 #[.bool false]).alloc (.cells #[.int .i64 0] 3)).alloc (.cells #[.pointer p] 24)
    rw [World.size_alloc, World.size_alloc] at this
    exact this
  have k5 : Blk W0 (w.heap.size + 1 + 1 + 1) 3 #[.int .i64 0] := by
    rw [hW0]
    have := (Blk.new (((w.alloc (.cells #[.pointer p] 24)).alloc (.cells #[.slice none 0 0] 29)).alloc (.cells #[.bool false] 4)) 3 #[.int .i64 0]).alloc (.cells #[.pointer p] 24)
    rw [World.size_alloc, World.size_alloc, World.size_alloc] at this
    exact this
  have k6 : Blk W0 (w.heap.size + 1 + 1 + 1 + 1) 24 #[.pointer p] := by
    rw [hW0]
    have := Blk.new ((((w.alloc (.cells #[.pointer p] 24)).alloc (.cells #[.slice none 0 0] 29)).alloc (.cells #[.bool false] 4)).alloc (.cells #[.int .i64 0] 3)) 24 #[.pointer p]
    rw [World.size_alloc, World.size_alloc, World.size_alloc, World.size_alloc] at this
    exact this
  have hL0 : NoSet W0 p := H.out.below hB0
  clear hW0
  have hst := all_no_stops 4 (by omega) (w.heap.size + 1 + 1 + 1 + 1) p (Below w.heap.size) W0 (by rw [hs0]; omega) (k6.cell 0) hL0
  refine wpIn_rangeFunc_ownF rfl (by omega) (gf := 46) (lb := #[.pointer (some ⟨w.heap.size + 1 + 1 + 1 + 1, 0, none⟩)]) rfl trivial (enters_of Tryd.func46 (by kernel_rfl) rfl)
    hst belowK_t (belowK_b (by rw [hs0]; omega)) (Below.refl _ _) (fun _ => rfl)
    (fun pre W => (pre <+: ([] : List Nat) ∧ W.cell? ⟨w.heap.size, 0, none⟩ = some (.pointer p) ∧ W.cell? ⟨w.heap.size + 1, 0, none⟩ = some (.slice none 0 0) ∧ W.cell? ⟨w.heap.size + 1 + 1, 0, none⟩ = some (.bool false) ∧ W.frozen? ⟨w.heap.size + 1 + 1, 0, none⟩ = false ∧
      W.cell? ⟨w.heap.size + 1 + 1 + 1, 0, none⟩ = some (.int .i64 (pre.length : Int)) ∧ W.frozen? ⟨w.heap.size + 1 + 1 + 1, 0, none⟩ = false) ∧ Below w.heap.size w W)
    (fun c pre W => ¬ (pre <+: ([] : List Nat)))
    (OwnFrom.and (Own.from (fun s A B row hs hg hr => ⟨hs.1, cell_kept hs.2.1 hg hr, cell_kept hs.2.2.1 hg hr, cell_kept hs.2.2.2.1 hg hr, (frozen_kept hs.2.2.2.1 hg hr).trans hs.2.2.2.2.1, cell_kept hs.2.2.2.2.2.1 hg hr, (frozen_kept hs.2.2.2.2.2.1 hg hr).trans hs.2.2.2.2.2.2⟩) _) (ownFrom_below (Nat.le_refl _) (by rw [hs0]; omega)))
    (fun c s A B row hs hg hr => hs)
    ⟨⟨List.nil_prefix, k2.cell 0, k3.cell 0, k4.cell 0, k4.frozen 0, k5.cell 0, k5.frozen 0⟩, hB0⟩
    (fun x => { tmps := #[.pointer p, .slice none 0 0, .pointer (some ⟨w.heap.size, 0, none⟩), .pointer (some ⟨w.heap.size + 1, 0, none⟩), .pointer (some ⟨w.heap.size + 1 + 1, 0, none⟩), .pointer (some ⟨w.heap.size + 1 + 1 + 1, 0, none⟩), .int .i64 (x : Int),
      .pointer p, .func (.func 46) #[] #[.pointer (some ⟨w.heap.size + 1 + 1 + 1 + 1, 0, none⟩)], .func (.func 46) #[] #[.pointer (some ⟨w.heap.size + 1 + 1 + 1 + 1, 0, none⟩)], .int .i64 (x : Int),
      undef, undef, undef, undef, undef, undef, undef, undef, undef, undef, undef, undef, undef, undef, undef, undef, undef, undef, undef, undef, undef, undef, undef, undef, undef, undef, undef, undef, undef, undef], defers := [] }) ?assign ?body ?done ?stop
  case assign =>
    intro l x W K hK
    gi_wp2
    exact hK
  case body =>
    rintro l pre x W _ hpl
    exact absurd hpl (by omega)
  case done =>
    rintro D ys W hD rfl ⟨⟨hp, q2, q3, q4, f4, q5, f5⟩, hB1⟩ hK
    have HW := Lib.hid (H.out.below hB1)
    have q5 : W.cell? ⟨w.heap.size + 1 + 1 + 1, 0, none⟩ = some (.int .i64 0) := q5
    have HLN : Hid (∀ W', NoSet W' p → Calls Tryd.prog 21 #[.pointer p] W' fun e w' => e = .returned (.int .i64 0) ∧ W' = w') := fun W' h' => no_len h'
    have HK := Lib.hid hK
    have HB1 := Lib.hid hB1
    clear hp hB1 hK
    gi_wp2
    refine wpIn_wide.2 ?_
    go_region_held3 (fun W' => W'.cell? ⟨w.heap.size, 0, none⟩ = some (.pointer p) ∧ W'.cell? ⟨w.heap.size + 1, 0, none⟩ = some (.slice none 0 0) ∧ W'.cell? ⟨w.heap.size + 1 + 1 + 1, 0, none⟩ = some (.int .i64 0)) ((repeat' apply And.intro) <;> first | assumption | (refine (World.cell?_setCell_other _ _ _ _ (by simp)).trans ?_; assumption) | go_keep) (first | (go_at_call 21; refine (HLN.out _ (by exact HW.out)).mono ?_; rintro e w' ⟨rfl, rfl⟩))
    gi_wp2
    have hcf : (W.setCell ⟨w.heap.size + 1 + 1, 0, none⟩ (.bool true)).drew.cell? ⟨w.heap.size + 1 + 1, 0, none⟩ = some (.bool true) := by
      rw [World.cell?_drew]
      exact World.cell?_setCell_same' _ _ _ (by rw [q4]; rfl)
    have hK' : (W.setCell ⟨w.heap.size + 1 + 1, 0, none⟩ (.bool true)).drew.heap[D]? = some (.deferred (some [])) := (KeepsOthers.setCell W ⟨w.heap.size + 1 + 1, 0, none⟩ (.bool true)).same D _ HK.out rfl
    refine ⟨by simp, .inl ⟨_, _, rfl, run_takeDeferred hK', ?_⟩⟩
    have hc5 := cell_kept hcf (grownBy_putObj' _ D (.deferred none)) (fun r e => by cases e; exact ⟨_, hK', rfl⟩)
    refine ⟨.bool true, ?_, rfl, ((HB1.out.setCell (p := ⟨w.heap.size + 1 + 1, 0, none⟩) (by simp; omega) _).drew).trans (belowK_b (w := w) (Nat.le_refl _) _ D _ _ (by omega) hK' rfl rfl)⟩
    simp [results, Tryd.f14, go_sem, hc5]
  case stop =>
    rintro D c pre W hD hpre hno hK
    exact absurd hpre hno
end Go.Proofs.YthmkaefpgcjlnaaDoor

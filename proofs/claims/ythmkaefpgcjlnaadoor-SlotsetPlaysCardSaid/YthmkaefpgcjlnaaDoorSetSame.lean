/-
  The law's same: whether a set has just these slots, in order; here: it has. Conditions: the set is as New makes it; the slots' list can be read.
-/
import Derived.Test.YthmkaefpgcjlnaaDoorSetIter
import Derived.Deep.RegionHeld3
namespace Go.Proofs.YthmkaefpgcjlnaaDoor
open Go.RowKit Go.Shelf
set_option linter.unusedVariables false
set_option maxHeartbeats 400000 in
theorem check_in {w : World} {g size : Nat} {b : W64} (h : IsSet w g size b) (hs : 0 < size) (hs34 : size ≤ 34) (j : Nat) (hj : j < size) :
    Calls Tryd.prog 41 #[.pointer (some ⟨g, 0, none⟩), .int .i64 (j : Int)] w fun e w' => e = .returned (.int .i64 0) ∧ w = w' := by
  have q0 : w.cell? ⟨g, 0, none⟩ = some (.int .i64 (size : Int)) := h.cell 0
  have H := Lib.hid h
  clear h
  go_enter Tryd.func41, Tryd.ntmps41
  go_wp2_with fail
  refine (valid_set H.out hs).mono ?_
  rintro e w' ⟨rfl, rfl⟩
  go_wp2_with fail
  go_ret
  exact ⟨rfl, rfl⟩
set_option maxHeartbeats 400000 in
theorem has_in {w : World} {g size : Nat} {b : W64} (h : IsSet w g size b) (hs : 0 < size) (hs34 : size ≤ 34) (j : Nat) (hj : j < size) (v : Bool) (hv : b.getLsbD j = v) :
    Calls Tryd.prog 16 #[.pointer (some ⟨g, 0, none⟩), .int .i64 (j : Int)] w fun e w' => e = .returned (.bool v) ∧ w = w' := by
  have q1 : w.cell? ⟨g, 1, none⟩ = some (.int .u64 (n64 b)) := h.cell 1
  have H := Lib.hid h
  have hbit := bit_u64 b j
  rw [hv] at hbit
  have hj64 : j < 64 := by omega
  clear h hv
  cases v
  all_goals
    go_enter Tryd.func16, Tryd.ntmps16
    go_wp2_with fail
    refine (check_in H.out hs hs34 j hj).mono ?_
    rintro e w' ⟨rfl, rfl⟩
    go_wp2_with fail
    go_ret
    exact ⟨rfl, rfl⟩
set_option maxHeartbeats 400000 in
theorem yields_any (f : Nat) (cap : Array Value) (w : World) :
    Calls Tryd.prog 40 #[.func (.func f) #[] cap] w fun e w' => e = .returned (.func (.func f) #[] cap) ∧ w = w' := by
  have hq : ∀ W, (binOp .eql 47 (.func (.func f) #[] cap) .nilFunc).run Tryd.prog W = .ok (.bool false) W := fun _ => by kernel_rfl
  go_enter Tryd.func40, Tryd.ntmps40
  go_wp2_with fail
  go_ret
  exact ⟨rfl, rfl⟩
/-- What Len says of a set. -/
def LenSays : Prop := ∀ (w : World) (g size : Nat) (b : W64), IsSet w g size b → 0 < size → size ≤ 34 → (∀ i, size ≤ i → b.getLsbD i = false) →
  Calls Tryd.prog 21 #[.pointer (some ⟨g, 0, none⟩)] w fun e w' => e = .returned (.int .i64 ((elems b size).length : Int)) ∧ w = w'
attribute [local go_sem] Oper.semAt_some
theorem cell_of_box {W : World} {B : Nat} {v : Value} {t : TypeId} (h : Blk W B t #[v]) : W.cell? ⟨B, 0, none⟩ = some v ∧ W.frozen? ⟨B, 0, none⟩ = false := ⟨h.cell 0, h.frozen 0⟩
theorem pre_snoc {E pre : List Nat} {y : Nat} (h : pre <+: E) (hy : E[pre.length]? = some y) : pre ++ [y] <+: E := by
  obtain ⟨t, rfl⟩ := h
  cases t with
  | nil => simp at hy
  | cons z t =>
    have : z = y := by simpa using hy
    exact ⟨t, by rw [this]; simp⟩
theorem pre_not {E pre : List Nat} {x y : Nat} (hy : E[pre.length]? = some y) (hx : ¬ x = y) : ¬ (pre ++ [x] <+: E) := by
  rintro ⟨t, rfl⟩
  simp at hy
  exact hx hy
set_option maxRecDepth 100000 in
set_option maxHeartbeats 8000000 in
theorem same_set (hlen : LenSays) {w : World} {g size : Nat} {b : W64} (h : IsSet w g size b) (hs : 0 < size) (hs34 : size ≤ 34) (hb : ∀ i, size ≤ i → b.getLsbD i = false)
    (A : Option Addr) (n c B : Nat) (hn : n = (elems b size).length) (hr : Reads w B 1 A n ((elems b size).map fun (i : Nat) => Value.int .i64 (i : Int))) (hB : B ≤ w.heap.size) :
    Calls Tryd.prog 14 #[.pointer (some ⟨g, 0, none⟩), .slice A n c] w fun e w' => e = .returned (.bool true) ∧ Below w.heap.size w w' := by
  refine (callsIn_wide (n := 5)).1 ?_
  have H := Lib.hid h
  have hg := h.lt
  have hn34 : n ≤ 34 := by
    rw [hn]
    have := List.length_filter_le (fun i => b.getLsbD i) (List.range size)
    rw [List.length_range] at this
    exact Nat.le_trans this hs34
  obtain ⟨E, hE⟩ : ∃ E, E = elems b size := ⟨_, rfl⟩
  have HE := Lib.hid hE
  rw [← hE] at hr
  have HN : Hid (n = E.length) := by show _ = _; rw [hn, hE]
  have HR := Lib.hid hr
  have hmem : Hid (∀ i ∈ E, i < size ∧ b.getLsbD i = true) := fun i hi => by
    rw [hE] at hi
    simp only [elems, List.mem_filter, List.mem_range] at hi
    exact hi
  clear hn hE hr h
  refine callsIn_of_wp_marks Tryd.func14 rfl trivial ?_ rfl
  simp only [Tryd.ntmps14, List.size_toArray, List.length_cons, List.length_nil, Nat.reduceAdd, Nat.reduceSub, Array.replicate_succ, Array.replicate_zero, List.push_toArray, List.append_toArray, List.nil_append, List.cons_append]
  gi_wp2_with (first
    | (refine ⟨trivial, ?_⟩; gi_at_call 27; refine (callsIn_wide.2 (all_any _ _)).mono ?_; rintro e w' ⟨rfl, rfl⟩)
    | (refine ⟨trivial, ?_⟩; gi_at_call 40; refine (callsIn_wide.2 (yields_any _ _ _)).mono ?_; rintro e w' ⟨rfl, rfl⟩))
  obtain ⟨W0, hW0⟩ : ∃ W0 : World, W0 = ((((w.alloc (.cells #[.pointer (some ⟨g, 0, none⟩)] 24)).alloc (.cells #[.slice A n c] 29)).alloc (.cells #[.bool false] 4)).alloc (.cells #[.int .i64 0] 3)).alloc (.cells #[.pointer (some ⟨g, 0, none⟩)] 24) := ⟨_, rfl⟩
  rw [← hW0]
  have hB0 : Below w.heap.size w W0 := by rw [hW0]; exact (((((Below.refl w.heap.size w).alloc (Nat.le_refl _) _).alloc (by simp) _).alloc (by simp; omega) _).alloc (by simp; omega) _).alloc (by simp; omega) _
  have hs0 : W0.heap.size = w.heap.size + 5 := by rw [hW0]; simp
  have k2 : Blk W0 w.heap.size 24 #[.pointer (some ⟨g, 0, none⟩)] := by rw [hW0]; exact ((((Blk.new w _ _).alloc _).alloc _).alloc _).alloc _
  have k3 : Blk W0 (w.heap.size + 1) 29 #[.slice A n c] := by
    rw [hW0]
    have := (((Blk.new (w.alloc (.cells #[.pointer (some ⟨g, 0, none⟩)] 24)) 29 #[.slice A n c]).alloc (.cells #[.bool false] 4)).alloc (.cells #[.int .i64 0] 3)).alloc (.cells #[.pointer (some ⟨g, 0, none⟩)] 24)
    rw [World.size_alloc] at this
    exact this
  have k4 : Blk W0 (w.heap.size + 1 + 1) 4 #[.bool false] := by
    rw [hW0]
    have := ((Blk.new ((w.alloc (.cells #[.pointer (some ⟨g, 0, none⟩)] 24)).alloc (.cells #[.slice A n c] 29)) 4 #[.bool false]).alloc (.cells #[.int .i64 0] 3)).alloc (.cells #[.pointer (some ⟨g, 0, none⟩)] 24)
    rw [World.size_alloc, World.size_alloc] at this
    exact this
  have k5 : Blk W0 (w.heap.size + 1 + 1 + 1) 3 #[.int .i64 0] := by
    rw [hW0]
    have := (Blk.new (((w.alloc (.cells #[.pointer (some ⟨g, 0, none⟩)] 24)).alloc (.cells #[.slice A n c] 29)).alloc (.cells #[.bool false] 4)) 3 #[.int .i64 0]).alloc (.cells #[.pointer (some ⟨g, 0, none⟩)] 24)
    rw [World.size_alloc, World.size_alloc, World.size_alloc] at this
    exact this
  have k6 : Blk W0 (w.heap.size + 1 + 1 + 1 + 1) 24 #[.pointer (some ⟨g, 0, none⟩)] := by
    rw [hW0]
    have := Blk.new ((((w.alloc (.cells #[.pointer (some ⟨g, 0, none⟩)] 24)).alloc (.cells #[.slice A n c] 29)).alloc (.cells #[.bool false] 4)).alloc (.cells #[.int .i64 0] 3)) 24 #[.pointer (some ⟨g, 0, none⟩)]
    rw [World.size_alloc, World.size_alloc, World.size_alloc, World.size_alloc] at this
    exact this
  have hL0 : IsSet W0 g size b := Blk.below H.out hB0 hg
  clear hW0
  have hst := all_stops 4 (by omega) (w.heap.size + 1 + 1 + 1 + 1) g size b hs hs34 (Below w.heap.size) W0 (by rw [hs0]; omega) (k6.cell 0) hL0
  rw [← HE.out] at hst
  refine wpIn_rangeFunc_ownF rfl (by omega) (gf := 46) (lb := #[.pointer (some ⟨w.heap.size + 1 + 1 + 1 + 1, 0, none⟩)]) rfl trivial (enters_of Tryd.func46 (by kernel_rfl) rfl)
    hst belowK_t (belowK_b (by rw [hs0]; omega)) (Below.refl _ _) (fun _ => rfl)
    (fun pre W => (pre <+: E ∧ W.cell? ⟨w.heap.size, 0, none⟩ = some (.pointer (some ⟨g, 0, none⟩)) ∧ W.cell? ⟨w.heap.size + 1, 0, none⟩ = some (.slice A n c) ∧ W.cell? ⟨w.heap.size + 1 + 1, 0, none⟩ = some (.bool false) ∧ W.frozen? ⟨w.heap.size + 1 + 1, 0, none⟩ = false ∧
      W.cell? ⟨w.heap.size + 1 + 1 + 1, 0, none⟩ = some (.int .i64 (pre.length : Int)) ∧ W.frozen? ⟨w.heap.size + 1 + 1 + 1, 0, none⟩ = false) ∧ Below w.heap.size w W)
    (fun c pre W => ¬ (pre <+: E))
    (OwnFrom.and (Own.from (fun s A B row hs hg hr => ⟨hs.1, cell_kept hs.2.1 hg hr, cell_kept hs.2.2.1 hg hr, cell_kept hs.2.2.2.1 hg hr, (frozen_kept hs.2.2.2.1 hg hr).trans hs.2.2.2.2.1, cell_kept hs.2.2.2.2.2.1 hg hr, (frozen_kept hs.2.2.2.2.2.1 hg hr).trans hs.2.2.2.2.2.2⟩) _) (ownFrom_below (Nat.le_refl _) (by rw [hs0]; omega)))
    (fun c s A B row hs hg hr => hs)
    ⟨⟨List.nil_prefix, k2.cell 0, k3.cell 0, k4.cell 0, k4.frozen 0, k5.cell 0, k5.frozen 0⟩, hB0⟩
    (fun x => { tmps := #[.pointer (some ⟨g, 0, none⟩), .slice A n c, .pointer (some ⟨w.heap.size, 0, none⟩), .pointer (some ⟨w.heap.size + 1, 0, none⟩), .pointer (some ⟨w.heap.size + 1 + 1, 0, none⟩), .pointer (some ⟨w.heap.size + 1 + 1 + 1, 0, none⟩), .int .i64 (x : Int),
      .pointer (some ⟨g, 0, none⟩), .func (.func 46) #[] #[.pointer (some ⟨w.heap.size + 1 + 1 + 1 + 1, 0, none⟩)], .func (.func 46) #[] #[.pointer (some ⟨w.heap.size + 1 + 1 + 1 + 1, 0, none⟩)], .int .i64 (x : Int),
      undef, undef, undef, undef, undef, undef, undef, undef, undef, undef, undef, undef, undef, undef, undef, undef, undef, undef, undef, undef, undef, undef, undef, undef, undef, undef, undef, undef, undef, undef], defers := [] }) ?assign ?body ?done ?stop
  case assign =>
    intro l x W K hK
    gi_wp2
    exact hK
  case body =>
    rintro l pre x W ⟨⟨hp, q2, q3, q4, f4, q5, f5⟩, hB1⟩ hpl
    have hpn : pre.length < n := by have := HN.out; omega
    have hW : IsSet W g size b := Blk.below H.out hB1 hg
    have HW := Lib.hid hW
    have HP := Lib.hid hp
    have HPL := Lib.hid hpl
    obtain ⟨ad, u, rfl, hab, hx, hc⟩ := (HR.out.below (hB1.mono hB)).at_ hpn
    obtain ⟨y, hy⟩ : ∃ y, E[pre.length]? = some y := ⟨_, List.getElem?_eq_getElem hpl⟩
    rw [List.getElem?_map, hy] at hx
    simp only [Option.map_some, Option.some.injEq] at hx
    subst hx
    have HY := Lib.hid hy
    have HM : Hid (y < size ∧ b.getLsbD y = true) := hmem.out _ (List.mem_of_getElem? hy)
    obtain ⟨k, hk⟩ : ∃ k, pre.length = k := ⟨_, rfl⟩
    rw [hk] at q5 hc hpn
    have HK := Lib.hid hk
    have hBody := hB1
    have HB1 := Lib.hid hB1
    clear hp hpl hW hy hk hB1 hBody
    by_cases hxy : x = y
    · subst hxy
      have hb0 : ((x : Int) != (x : Int)) = false := by simp
      gi_wp2_with (refine ⟨trivial, ?_⟩; gi_at_call 16; refine (CallsIn.inRound l (callsIn_wide.2 (has_in HW.out hs hs34 x HM.out.1 true HM.out.2))).mono ?_; rintro e w' ⟨rfl, rfl⟩)
      have HPS : Hid (pre ++ [x] <+: E) := pre_snoc HP.out HY.out
      have hle : (pre ++ [x]).length = k + 1 := by rw [List.length_append, HK.out]; rfl
      refine ⟨KeepsOthers.setCell _ _ _, (Below.refl w.heap.size _).setCell (p := ⟨w.heap.size + 1 + 1 + 1, 0, none⟩) (by simp; omega) _, ⟨HPS.out, ?_, ?_, ?_, ?_, ?_, ?_⟩, HB1.out.setCell (p := ⟨w.heap.size + 1 + 1 + 1, 0, none⟩) (by simp; omega) _⟩
      · rw [World.cell?_setCell_other _ _ _ _ (by simp)]; exact q2
      · rw [World.cell?_setCell_other _ _ _ _ (by simp)]; exact q3
      · rw [World.cell?_setCell_other _ _ _ _ (by simp)]; exact q4
      · rw [World.frozen?_setCell]; exact f4
      · rw [hle]; exact World.cell?_setCell_same' _ _ _ (by rw [q5]; rfl)
      · rw [World.frozen?_setCell]; exact f5
    · have hb0 : ((y : Int) != (x : Int)) = true := by simp; omega
      gi_wp2
      refine ⟨trivial, ?_⟩
      gi_wp2
      exact ⟨KeepsOthers.setCell _ _ _, pre_not HY.out hxy⟩
  case done =>
    rintro D ys W hD rfl ⟨⟨hp, q2, q3, q4, f4, q5, f5⟩, hB1⟩ hK
    have hW : IsSet W g size b := Blk.below H.out hB1 hg
    have HW := Lib.hid hW
    have hlen' : (ys.length : Int) = (n : Int) := by rw [HN.out]
    rw [hlen'] at q5
    have HE2 := Lib.hid HE.out
    have HLN : Hid (∀ W', IsSet W' g size b → Calls Tryd.prog 21 #[.pointer (some ⟨g, 0, none⟩)] W' fun e w' => e = .returned (.int .i64 (n : Int)) ∧ W' = w') := fun W' h' => by
      have := hlen W' g size b h' hs hs34 hb
      rw [← HE2.out, hlen'] at this
      exact this
    have HK := Lib.hid hK
    have HB1 := Lib.hid hB1
    clear hp hW hlen' hB1 hK
    gi_wp2
    refine wpIn_wide.2 ?_
    go_region_held3 (fun W' => W'.cell? ⟨w.heap.size, 0, none⟩ = some (.pointer (some ⟨g, 0, none⟩)) ∧ W'.cell? ⟨w.heap.size + 1, 0, none⟩ = some (.slice A n c) ∧ W'.cell? ⟨w.heap.size + 1 + 1 + 1, 0, none⟩ = some (.int .i64 (n : Int))) ((repeat' apply And.intro) <;> first | assumption | (refine (World.cell?_setCell_other _ _ _ _ (by simp)).trans ?_; assumption) | go_keep) (first | (go_at_call 21; refine (HLN.out _ (by first | exact HW.out | exact Blk.drew HW.out)).mono ?_; rintro e w' ⟨rfl, rfl⟩))
    gi_wp2
    have hcf : (W.setCell ⟨w.heap.size + 1 + 1, 0, none⟩ (.bool true)).drew.cell? ⟨w.heap.size + 1 + 1, 0, none⟩ = some (.bool true) := by
      rw [World.cell?_drew]
      exact World.cell?_setCell_same' _ _ _ (by rw [q4]; rfl)
    have hK' : (W.setCell ⟨w.heap.size + 1 + 1, 0, none⟩ (.bool true)).drew.heap[D]? = some (.deferred (some [])) := (KeepsOthers.setCell W ⟨w.heap.size + 1 + 1, 0, none⟩ (.bool true)).same D _ HK.out rfl
    refine ⟨by simp, .inl ⟨_, _, rfl, run_takeDeferred hK', ?_⟩⟩
    have hc5 := cell_kept hcf (grownBy_putObj' _ D (.deferred none)) (fun r e => by cases e; exact ⟨_, hK', rfl⟩)
    refine ⟨.bool true, ?_, rfl, ((HB1.out.setCell (p := ⟨w.heap.size + 1 + 1, 0, none⟩) (by simp; omega) _).drew).trans (belowK_b (w := w) (Nat.le_refl _) _ D _ _ (by omega) hK' rfl rfl)⟩
    simp [results, Tryd.f14, go_sem, hc5]
  case stop =>
    rintro D c pre W hD hpre hno hK
    exact absurd hpre hno
end Go.Proofs.YthmkaefpgcjlnaaDoor

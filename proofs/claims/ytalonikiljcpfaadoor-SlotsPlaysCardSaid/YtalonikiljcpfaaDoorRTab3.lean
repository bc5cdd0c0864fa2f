/-
  The document's table of slots: Sizes, New, Copy; the methods of none. Conditions: as in the text ahead.
-/
import Derived.Test.YtalonikiljcpfaaDoorRTab2
import Derived.Test.YtalonikiljcpfaaDoorTabNo
import Derived.Deep.RegionLaw
namespace Go.Proofs.YtalonikiljcpfaaDoor
open Go.RowKit
set_option linter.unusedVariables false
theorem make_ints (k : Nat) (hk : k ≤ 65536) (W : World) : (Instr.makeSlice 27 (.int .i64 (k : Int)) (.int .i64 (k : Int))).run Tryd.prog W = .ok (.slice (some ⟨W.heap.size, 0, none⟩) k k) (W.alloc (.cells (nats (List.replicate k 0)).toArray 3)) := by
  rw [run_make_row' 27 3 (.int .i64 0) 8 Tryd.underlying27 int_info rfl .i64 .i64 k (by omega) (by omega)]
  have e : madeCells #[Value.int .i64 0] k = (nats (List.replicate k 0)).toArray := by
    apply Array.toList_inj.1
    rw [toList_madeCells_one]
    simp [nats]
  rw [e]
section
variable {w w' w1 : World} {g b r : Nat} {T : List Nat}
set_option maxHeartbeats 1000000 in
theorem rtsizes (h : RTab w g b r T) :
    Calls Tryd.prog 56 #[.pointer (some ⟨g, 0, none⟩)] w fun e w' => e = .returned (.tuple #[.int .i64 (T.length : Int), .int .i64 (r : Int)]) ∧ ∃ q, w' = w.drewN q := by
  have HV := Lib.hid (rtvalid h)
  obtain ⟨c, q0, q1, _, _, hcm⟩ := h.parts
  clear h
  go_enter Tryd.func56, Tryd.ntmps56
  go_wp2_with fail
  refine HV.out.mono ?_
  rintro e w' ⟨rfl, rfl⟩
  go_wp2_with fail
  go_region
  go_wp2_with fail
  go_ret2
  exact ⟨rfl, 1, rfl⟩
set_option maxHeartbeats 1000000 in
theorem rtnew (n r : Nat) (w : World) (h1 : 1 ≤ n) (h2 : n ≤ 32) (hr : r ≤ n) :
    Calls Tryd.prog 29 #[.int .i64 (n : Int), .int .i64 (r : Int)] w fun e w' => ∃ g b, e = .returned (.tuple #[.pointer (some ⟨g, 0, none⟩), .int .i64 0]) ∧ RTab w' g b r (List.replicate n 0) ∧ (∀ k, rfoot g b k → w.heap.size ≤ k) ∧ Below w.heap.size w w' := by
  have hmk := make_ints n (by omega)
  have hr0 : ¬ ((r : Int) < 0) := by omega
  have hrn : ¬ ((n : Int) < (r : Int)) := by omega
  have HH : Hid (RTab ((w.alloc (.cells (nats (List.replicate n 0)).toArray 3)).alloc (.cells #[.slice (some ⟨w.heap.size, 0, none⟩) n n, .int .i64 (r : Int)] 84)) (w.heap.size + 1) w.heap.size r (List.replicate n 0) ∧ (∀ k, rfoot (w.heap.size + 1) w.heap.size k → w.heap.size ≤ k) ∧ Below w.heap.size w ((w.alloc (.cells (nats (List.replicate n 0)).toArray 3)).alloc (.cells #[.slice (some ⟨w.heap.size, 0, none⟩) n n, .int .i64 (r : Int)] 84))) := by
    refine ⟨⟨⟨n, ?_, ?_⟩, by omega, by rw [List.length_replicate]; omega, by rw [List.length_replicate]; omega, by rw [List.length_replicate]; omega, fun x hx => by rw [List.eq_of_mem_replicate hx]; omega⟩, fun k hk => by rcases hk with rfl | rfl <;> omega, ((Below.refl _ _).alloc (Nat.le_refl _) _).alloc (by simp) _⟩
    · rw [List.length_replicate]
      have := Blk.new (w.alloc (.cells (nats (List.replicate n 0)).toArray 3)) 84 #[.slice (some ⟨w.heap.size, 0, none⟩) n n, .int .i64 (r : Int)]
      rw [World.size_alloc] at this
      exact this
    · rw [List.length_replicate]
      have := World.ownsRow_lit (base := 0) (e := 3) (size := 1) w (nats (List.replicate n 0)).toArray n (Nat.zero_le _) (by unfold maxLen; omega) (by simp [nats])
      have h2 := this.alloc (.cells #[.slice (some ⟨w.heap.size, 0, none⟩) n n, .int .i64 (r : Int)] 84)
      simpa using h2
  go_enter Tryd.func29, Tryd.ntmps29
  go_wp2_with fail
  go_ret2
  first
    | exact ⟨w.heap.size + 1, w.heap.size, rfl, HH.out⟩
    | exact ⟨w.heap.size + 1, rfl, w.heap.size, HH.out⟩
set_option maxHeartbeats 1000000 in
theorem rtnew_bad (n r : Int) (w : World) (h : n < 1 ∨ 32 < n ∨ r < 0 ∨ n < r) :
    Calls Tryd.prog 29 #[.int .i64 n, .int .i64 r] w fun e w' => e = .returned (.tuple #[.pointer none, .int .i64 2]) ∧ w = w' := by
  by_cases h1 : n < 1
  · clear h
    go_enter Tryd.func29, Tryd.ntmps29
    go_wp2_with fail
    go_ret2
    exact ⟨rfl, rfl⟩
  by_cases h2 : 32 < n
  · clear h
    go_enter Tryd.func29, Tryd.ntmps29
    go_wp2_with fail
    go_ret2
    exact ⟨rfl, rfl⟩
  by_cases h3 : r < 0
  · clear h
    go_enter Tryd.func29, Tryd.ntmps29
    go_wp2_with fail
    go_ret2
    exact ⟨rfl, rfl⟩
  have h4 : n < r := by omega
  clear h
  go_enter Tryd.func29, Tryd.ntmps29
  go_wp2_with fail
  go_ret2
  exact ⟨rfl, rfl⟩
set_option maxHeartbeats 4000000 in
theorem rtcopy (h : RTab w g b r T) :
    Calls Tryd.prog 36 #[.pointer (some ⟨g, 0, none⟩)] w fun e w' => ∃ g' b', e = .returned (.pointer (some ⟨g', 0, none⟩)) ∧ RTab w' g' b' r T ∧ (∀ k, rfoot g' b' k → w.heap.size ≤ k) ∧ Below w.heap.size w w' := by
  obtain ⟨i0, hi0, hz0, hz1, hz2⟩ := info_parts int_info
  obtain ⟨c, q0, q1, qc, hr, hcm⟩ := h.parts
  have HV := Lib.hid (rtvalid h)
  have hp := h.pos
  have hle := h.le
  have hres := h.res
  have hall := h.all
  have hglt : g < w.heap.size := h.lt g (.inl rfl)
  have HR : Hid (Reads (w.alloc (.cells #[] 3)) w.heap.size 1 (some ⟨b, 0, none⟩) T.length (nats T)) := hr.alloc (Nat.le_refl _) _
  have HO : Hid ((w.alloc (.cells #[] 3)).ownsRow w.heap.size 3 1 (.slice (some ⟨w.heap.size, 0, none⟩) 0 0) 0 []) := World.ownsRow_lit (base := w.heap.size) (e := 3) (size := 1) w #[] 0 (Nat.le_refl _) (by unfold maxLen; omega) rfl
  unfold maxLen at hcm
  have HONE := Lib.hid (nats_one T)
  have HALL := Lib.hid hall
  clear h hr qc hall
  go_enter Tryd.func36, Tryd.ntmps36
  go_wp2_with fail
  refine HV.out.mono ?_
  rintro e w' ⟨rfl, rfl⟩
  go_wp2_with fail
  go_region_law (first
    | (refine step_append_any _ (by rfl) (.tmp 6) (.tmp 10) _ (by rfl) w.heap.size 3 i0 _ 1 8 Tryd.underlying27 hi0 hz0 hz1 hz2 (by rfl) (by omega) (.slice (some ⟨w.heap.size, 0, none⟩) 0 0) 0 [] (by rfl)
         HO.out w.heap.size _ T.length _ (nats T) (by rfl) HR.out HONE.out (by simp only [maxLen]; omega) (by omega) (by simp) ?_
       intro v1 w4 hown1 hg1 hat1
       rw [Nat.zero_add, List.nil_append] at hown1
       obtain ⟨g4, c4, hv4, hb4, hl4⟩ := hown1.form hp
       subst hv4
       have hbl : Below w.heap.size w w4 := Below.trans ((Below.refl _ w).alloc (Nat.le_refl _) (.cells #[] 3)).drew ((Below.refl w.heap.size _).grown hg1 (by simp) (fun q hq => (HO.out.lt q hq).1))
       have q04 : w4.cell? ⟨g, 0, none⟩ = some (.slice (some ⟨b, 0, none⟩) T.length c) := (hbl.cell (p := ⟨g, 0, none⟩) hglt).trans q0
       have q14 : w4.cell? ⟨g, 1, none⟩ = some (.int .i64 (r : Int)) := (hbl.cell (p := ⟨g, 1, none⟩) hglt).trans q1
       have HO4 := Lib.hid hown1
       have HB4 := Lib.hid hbl
       clear hown1 hg1 hat1 hbl))
  all_goals
    go_wp2_with fail
    go_ret
    refine ⟨w4.heap.size, g4, rfl, ⟨⟨c4, Blk.new w4 _ _, own_base (own_below' HO4.out ((Below.refl _ _).alloc (Nat.le_refl _) _)) (fun _ _ => Nat.zero_le _)⟩, by omega, hp, hle, hres, HALL.out⟩, fun k hk => by
      have := HB4.out.size
      rcases hk with rfl | rfl <;> omega, HB4.out.alloc HB4.out.size _⟩
theorem rtnovalid (w : World) :
    Calls Tryd.prog 50 #[.pointer none] w fun e w' => e = .returned (.bool false) ∧ w = w' := by
  go_enter Tryd.func50, Tryd.ntmps50
  go_wp2_with fail
  go_ret
  exact ⟨rfl, rfl⟩
set_option maxHeartbeats 400000 in
theorem rnoactive (w : World) :
    Calls Tryd.prog 30 #[.pointer none] w fun e w' => e = .returned (.tuple #[.int .i64 0, .int .i64 1]) ∧ w = w' := by
  have HV := Lib.hid (rtnovalid w)
  go_enter Tryd.func30, Tryd.ntmps30
  go_wp2_with fail
  refine HV.out.mono ?_
  rintro e w' ⟨rfl, rfl⟩
  go_wp2_with fail
  go_ret2
  exact ⟨rfl, rfl⟩
set_option maxHeartbeats 400000 in
theorem rnooutput (w : World) :
    Calls Tryd.prog 31 #[.pointer none] w fun e w' => e = .returned (.tuple #[.int .i64 0, .int .i64 1]) ∧ w = w' := by
  have HV := Lib.hid (rtnovalid w)
  go_enter Tryd.func31, Tryd.ntmps31
  go_wp2_with fail
  refine HV.out.mono ?_
  rintro e w' ⟨rfl, rfl⟩
  go_wp2_with fail
  go_ret2
  exact ⟨rfl, rfl⟩
set_option maxHeartbeats 400000 in
theorem rnostate (w : World) (i : Int) :
    Calls Tryd.prog 55 #[.pointer none, .int .i64 i] w fun e w' => e = .returned (.tuple #[.int .i64 0, .int .i64 1]) ∧ w = w' := by
  have HV := Lib.hid (rtnovalid w)
  go_enter Tryd.func55, Tryd.ntmps55
  go_wp2_with fail
  refine HV.out.mono ?_
  rintro e w' ⟨rfl, rfl⟩
  go_wp2_with fail
  go_ret2
  exact ⟨rfl, rfl⟩
set_option maxHeartbeats 400000 in
theorem rnosizes (w : World) :
    Calls Tryd.prog 56 #[.pointer none] w fun e w' => e = .returned (.tuple #[.int .i64 0, .int .i64 0]) ∧ w = w' := by
  have HV := Lib.hid (rtnovalid w)
  go_enter Tryd.func56, Tryd.ntmps56
  go_wp2_with fail
  refine HV.out.mono ?_
  rintro e w' ⟨rfl, rfl⟩
  go_wp2_with fail
  go_ret2
  exact ⟨rfl, rfl⟩
set_option maxHeartbeats 400000 in
theorem rnocopy (w : World) :
    Calls Tryd.prog 36 #[.pointer none] w fun e w' => e = .returned (.pointer none) ∧ w = w' := by
  have HV := Lib.hid (rtnovalid w)
  go_enter Tryd.func36, Tryd.ntmps36
  go_wp2_with fail
  refine HV.out.mono ?_
  rintro e w' ⟨rfl, rfl⟩
  go_wp2_with fail
  go_ret
  exact ⟨rfl, rfl⟩
set_option maxHeartbeats 1000000 in
theorem rnoin (w : World) (st : Int) :
    Calls Tryd.prog 57 #[.pointer none, .int .i64 st] w fun e w' => e = .returned (.slice none 0 0) ∧ w = w' := by
  have HV := Lib.hid (rtnovalid w)
  go_enter Tryd.func57, Tryd.ntmps57
  go_wp2_with fail
  go_loopg [5, 6] 0 (fun q v5 v6 wr => v5 = .slice none 0 0 ∧ v6 = .int .i64 0 ∧ w = wr)
  case atStart => exact ⟨rfl, rfl, rfl⟩
  case round =>
    obtain ⟨rfl, rfl, rfl⟩ := hrel
    go_wp2_with fail
    refine HV.out.mono ?_
    rintro e w' ⟨rfl, rfl⟩
    go_wp2_with fail
    go_ret
    exact ⟨rfl, rfl⟩
set_option maxHeartbeats 400000 in
theorem rnofree (w : World) :
    Calls Tryd.prog 52 #[.pointer none] w fun e w' => e = .returned (.int .i64 0) ∧ w = w' := by
  have HV := Lib.hid (rnoin w 0)
  go_enter Tryd.func52, Tryd.ntmps52
  go_wp2_with fail
  refine HV.out.mono ?_
  rintro e w' ⟨rfl, rfl⟩
  go_wp2_with fail
  go_ret
  exact ⟨rfl, rfl⟩
set_option maxHeartbeats 400000 in
theorem rnoonly (w : World) (st : Int) :
    Calls Tryd.prog 51 #[.pointer none, .int .i64 st] w fun e w' => e = .returned (.tuple #[.int .i64 0, .bool false]) ∧ w = w' := by
  have HV := Lib.hid (rnoin w st)
  go_enter Tryd.func51, Tryd.ntmps51
  go_wp2_with fail
  refine HV.out.mono ?_
  rintro e w' ⟨rfl, rfl⟩
  go_wp2_with fail
  go_ret2
  exact ⟨rfl, rfl⟩
set_option maxHeartbeats 400000 in
theorem rnochange (w : World) (i x y z : Int) :
    Calls Tryd.prog 54 #[.pointer none, .int .i64 i, .int .i64 x, .int .i64 y, .int .i64 z] w fun e w' => e = .returned (.int .i64 1) ∧ w = w' := by
  have HV := Lib.hid (rnostate w i)
  go_enter Tryd.func54, Tryd.ntmps54
  go_wp2_with fail
  refine HV.out.mono ?_
  rintro e w' ⟨rfl, rfl⟩
  go_wp2_with fail
  go_ret
  exact ⟨rfl, rfl⟩
set_option maxHeartbeats 400000 in
theorem rnoseal (w : World) (i : Int) :
    Calls Tryd.prog 32 #[.pointer none, .int .i64 i] w fun e w' => e = .returned (.int .i64 1) ∧ w = w' := by
  have HV := Lib.hid (rnochange w i 1 4 2)
  go_enter Tryd.func32, Tryd.ntmps32
  go_wp2_with fail
  refine HV.out.mono ?_
  rintro e w' ⟨rfl, rfl⟩
  go_wp2_with fail
  go_ret
  exact ⟨rfl, rfl⟩
set_option maxHeartbeats 400000 in
theorem rnochoose (w : World) (i : Int) :
    Calls Tryd.prog 33 #[.pointer none, .int .i64 i] w fun e w' => e = .returned (.int .i64 1) ∧ w = w' := by
  have HV := Lib.hid (rnochange w i 2 2 3)
  go_enter Tryd.func33, Tryd.ntmps33
  go_wp2_with fail
  refine HV.out.mono ?_
  rintro e w' ⟨rfl, rfl⟩
  go_wp2_with fail
  go_ret
  exact ⟨rfl, rfl⟩
set_option maxHeartbeats 400000 in
theorem rnodrop (w : World) (i : Int) :
    Calls Tryd.prog 34 #[.pointer none, .int .i64 i] w fun e w' => e = .returned (.int .i64 1) ∧ w = w' := by
  have HV := Lib.hid (rnochange w i 2 3 0)
  go_enter Tryd.func34, Tryd.ntmps34
  go_wp2_with fail
  refine HV.out.mono ?_
  rintro e w' ⟨rfl, rfl⟩
  go_wp2_with fail
  go_ret
  exact ⟨rfl, rfl⟩
set_option maxHeartbeats 400000 in
theorem rnoload (w : World) (i : Int) :
    Calls Tryd.prog 35 #[.pointer none, .int .i64 i] w fun e w' => e = .returned (.int .i64 1) ∧ w = w' := by
  have HV := Lib.hid (rnochange w i 0 0 2)
  go_enter Tryd.func35, Tryd.ntmps35
  go_wp2_with fail
  refine HV.out.mono ?_
  rintro e w' ⟨rfl, rfl⟩
  go_wp2_with fail
  go_ret
  exact ⟨rfl, rfl⟩
end
end Go.Proofs.YtalonikiljcpfaaDoor

/-
  A disk's methods: Len, Durable, Room, Read. Conditions: the disk is as New makes it.
-/
import Derived.Test.YtelobbigpgfobaaDisk3
namespace Go.Proofs.Ytelobbigpgfobaa
open Go.RowKit
set_option linter.unusedVariables false
section
variable {w w' w1 : World} {d n : Nat} {rb : Option Nat} {lay : Lay} {D : Nat → SlotD} {p : Option Addr} {g : Nat} {fb : Option Nat} {l : List (BitVec 8)} {size dur : Nat}
set_option maxHeartbeats 400000 in
theorem cl_Len (hi : IsImg w g fb l size dur) (fbx nbx : Nat) (hne : fbx ≠ nbx) (hc : w.cell? ⟨fbx, 0, none⟩ = some (.func (.func 39) #[] #[])) (hn : Blk w nbx 3 #[.int .i64 0]) :
    Calls Try.prog 67 #[.pointer (some ⟨g, 0, none⟩), .pointer (some ⟨fbx, 0, none⟩), .pointer (some ⟨nbx, 0, none⟩)] w fun e w' => ∃ r, e = .returned (.int .i64 r) ∧ (r = 0 ∧ Blk w' nbx 3 #[.int .i64 (l.length : Int)] ∧ Chg (fun k => k = nbx) w w') := by
  have HC := Lib.hid (len_img hi)
  have HN := Lib.hid hn
  have c1 : w.cell? ⟨nbx, 0, none⟩ = some (.int .i64 0) := hn.cell 0
  have f1 := hn.frozen 0
  clear hi hn
  go_enter Try.func67, Try.ntmps67
  go_wp2_with fail
  refine HC.out.mono ?_
  rintro e w' ⟨rfl, rfl⟩
  go_wp2_with fail
  go_ret
  exact ⟨0, rfl, rfl, (HN.out).set_ 0 _, Chg.setCell (Chg.refl (fun k => k = nbx) w) (p := ⟨nbx, 0, none⟩) (.inl rfl) _⟩
set_option maxHeartbeats 1000000 in
theorem ask_Len (h : IsDisk w d rb n lay D) (hn : 0 < n) (i : Nat) (hi : i < n) :
    Calls Try.prog 38 #[.pointer (some ⟨d, 0, none⟩), .int .i64 (i : Int), .func (.func 39) #[] #[]] w fun e w' => e = .returned (.tuple #[.int .i64 ((D i).bytes.length : Int), .int .i64 0]) ∧ Below w.heap.size w w' := by
  obtain ⟨wa, hwa⟩ : ∃ wa : World, wa = (w.alloc (.cells #[.func (.func 39) #[] #[]] 75)).alloc (.cells #[.int .i64 0] 3) := ⟨_, rfl⟩
  have HB : Hid (Below w.heap.size w wa) := by rw [hwa]; exact ((Below.refl _ _).alloc (Nat.le_refl _) _).alloc (by simp) _
  have hb1 : Blk wa w.heap.size 75 #[.func (.func 39) #[] #[]] := by rw [hwa]; exact (Blk.new w _ _).alloc _
  have hb2 : Blk wa (w.heap.size + 1) 3 #[.int .i64 0] := by
    rw [hwa]
    have := Blk.new (w.alloc (.cells #[.func (.func 39) #[] #[]] 75)) 3 #[.int .i64 0]
    rw [World.size_alloc] at this
    exact this
  have HD := Lib.hid (h.below HB.out)
  have HC := Lib.hid (with_ask HD.out hn i hi (.pointer (some ⟨w.heap.size, 0, none⟩)) (.pointer (some ⟨w.heap.size + 1, 0, none⟩)) _ (cl_Len (HD.out.img i hi) w.heap.size (w.heap.size + 1) (by omega) (hb1.cell 0) hb2))
  have HWA := Lib.hid hwa
  clear h hb1 hb2 hwa
  go_enter Try.func38, Try.ntmps38
  go_wp2_with fail
  rw [← HWA.out]
  refine HC.out.mono ?_
  rintro e w' ⟨r, rfl, hq⟩
  have c1 : w'.cell? ⟨w.heap.size + 1, 0, none⟩ = some (.int .i64 ((D i).bytes.length : Int)) := hq.out.2.1.cell 0
  have hr0 : r = 0 := hq.out.1
  have HBW : Hid (Below w.heap.size w w') := HB.out.trans (hq.out.2.2.below (by have := HB.out.size; exact this) (fun k hk => by omega))
  subst hr0
  clear hq
  go_wp2_with fail
  go_ret2
  exact ⟨rfl, HBW.out⟩
set_option maxHeartbeats 400000 in
theorem disk_len (h : IsDisk w d rb n lay D) (hn : 0 < n) (i : Nat) (hi : i < n) :
    Calls Try.prog 15 #[.pointer (some ⟨d, 0, none⟩), .int .i64 (i : Int)] w fun e w' => e = .returned (.tuple #[.int .i64 ((D i).bytes.length : Int), .int .i64 0]) ∧ Below w.heap.size w w' := by
  have HC := Lib.hid (ask_Len h hn i hi)
  clear h
  go_enter Try.func15, Try.ntmps15
  go_wp2_with fail
  refine HC.out.mono ?_
  rintro e w' ⟨rfl, hb⟩
  have HB := Lib.hid hb
  clear hb
  go_wp2_with fail
  go_ret2
  exact ⟨rfl, HB.out⟩
set_option maxHeartbeats 400000 in
theorem cl_Durable (hi : IsImg w g fb l size dur) (fbx nbx : Nat) (hne : fbx ≠ nbx) (hc : w.cell? ⟨fbx, 0, none⟩ = some (.func (.func 40) #[] #[])) (hn : Blk w nbx 3 #[.int .i64 0]) :
    Calls Try.prog 67 #[.pointer (some ⟨g, 0, none⟩), .pointer (some ⟨fbx, 0, none⟩), .pointer (some ⟨nbx, 0, none⟩)] w fun e w' => ∃ r, e = .returned (.int .i64 r) ∧ (r = 0 ∧ Blk w' nbx 3 #[.int .i64 (dur : Int)] ∧ Chg (fun k => k = nbx) w w') := by
  have HC := Lib.hid (durable_img hi)
  have HN := Lib.hid hn
  have c1 : w.cell? ⟨nbx, 0, none⟩ = some (.int .i64 0) := hn.cell 0
  have f1 := hn.frozen 0
  clear hi hn
  go_enter Try.func67, Try.ntmps67
  go_wp2_with fail
  refine HC.out.mono ?_
  rintro e w' ⟨rfl, rfl⟩
  go_wp2_with fail
  go_ret
  exact ⟨0, rfl, rfl, (HN.out).set_ 0 _, Chg.setCell (Chg.refl (fun k => k = nbx) w) (p := ⟨nbx, 0, none⟩) (.inl rfl) _⟩
set_option maxHeartbeats 1000000 in
theorem ask_Durable (h : IsDisk w d rb n lay D) (hn : 0 < n) (i : Nat) (hi : i < n) :
    Calls Try.prog 38 #[.pointer (some ⟨d, 0, none⟩), .int .i64 (i : Int), .func (.func 40) #[] #[]] w fun e w' => e = .returned (.tuple #[.int .i64 ((D i).dur : Int), .int .i64 0]) ∧ Below w.heap.size w w' := by
  obtain ⟨wa, hwa⟩ : ∃ wa : World, wa = (w.alloc (.cells #[.func (.func 40) #[] #[]] 75)).alloc (.cells #[.int .i64 0] 3) := ⟨_, rfl⟩
  have HB : Hid (Below w.heap.size w wa) := by rw [hwa]; exact ((Below.refl _ _).alloc (Nat.le_refl _) _).alloc (by simp) _
  have hb1 : Blk wa w.heap.size 75 #[.func (.func 40) #[] #[]] := by rw [hwa]; exact (Blk.new w _ _).alloc _
  have hb2 : Blk wa (w.heap.size + 1) 3 #[.int .i64 0] := by
    rw [hwa]
    have := Blk.new (w.alloc (.cells #[.func (.func 40) #[] #[]] 75)) 3 #[.int .i64 0]
    rw [World.size_alloc] at this
    exact this
  have HD := Lib.hid (h.below HB.out)
  have HC := Lib.hid (with_ask HD.out hn i hi (.pointer (some ⟨w.heap.size, 0, none⟩)) (.pointer (some ⟨w.heap.size + 1, 0, none⟩)) _ (cl_Durable (HD.out.img i hi) w.heap.size (w.heap.size + 1) (by omega) (hb1.cell 0) hb2))
  have HWA := Lib.hid hwa
  clear h hb1 hb2 hwa
  go_enter Try.func38, Try.ntmps38
  go_wp2_with fail
  rw [← HWA.out]
  refine HC.out.mono ?_
  rintro e w' ⟨r, rfl, hq⟩
  have c1 : w'.cell? ⟨w.heap.size + 1, 0, none⟩ = some (.int .i64 ((D i).dur : Int)) := hq.out.2.1.cell 0
  have hr0 : r = 0 := hq.out.1
  have HBW : Hid (Below w.heap.size w w') := HB.out.trans (hq.out.2.2.below (by have := HB.out.size; exact this) (fun k hk => by omega))
  subst hr0
  clear hq
  go_wp2_with fail
  go_ret2
  exact ⟨rfl, HBW.out⟩
set_option maxHeartbeats 400000 in
theorem disk_durable (h : IsDisk w d rb n lay D) (hn : 0 < n) (i : Nat) (hi : i < n) :
    Calls Try.prog 16 #[.pointer (some ⟨d, 0, none⟩), .int .i64 (i : Int)] w fun e w' => e = .returned (.tuple #[.int .i64 ((D i).dur : Int), .int .i64 0]) ∧ Below w.heap.size w w' := by
  have HC := Lib.hid (ask_Durable h hn i hi)
  clear h
  go_enter Try.func16, Try.ntmps16
  go_wp2_with fail
  refine HC.out.mono ?_
  rintro e w' ⟨rfl, hb⟩
  have HB := Lib.hid hb
  clear hb
  go_wp2_with fail
  go_ret2
  exact ⟨rfl, HB.out⟩
set_option maxHeartbeats 400000 in
theorem cl_Room (hi : IsImg w g fb l size dur) (fbx nbx : Nat) (hne : fbx ≠ nbx) (hc : w.cell? ⟨fbx, 0, none⟩ = some (.func (.func 41) #[] #[])) (hn : Blk w nbx 3 #[.int .i64 0]) :
    Calls Try.prog 67 #[.pointer (some ⟨g, 0, none⟩), .pointer (some ⟨fbx, 0, none⟩), .pointer (some ⟨nbx, 0, none⟩)] w fun e w' => ∃ r, e = .returned (.int .i64 r) ∧ (r = 0 ∧ Blk w' nbx 3 #[.int .i64 ((size : Int) - (l.length : Int))] ∧ Chg (fun k => k = nbx) w w') := by
  have HC := Lib.hid (room_img hi)
  have HN := Lib.hid hn
  have c1 : w.cell? ⟨nbx, 0, none⟩ = some (.int .i64 0) := hn.cell 0
  have f1 := hn.frozen 0
  obtain ⟨hu1, hu2, hu3, hu4⟩ := hi.nums
  clear hi hn
  go_enter Try.func67, Try.ntmps67
  go_wp2_with fail
  refine HC.out.mono ?_
  rintro e w' ⟨rfl, q, rfl⟩
  go_wp2_with fail
  go_ret
  exact ⟨0, rfl, rfl, (HN.out.drewN q).set_ 0 _, Chg.setCell ((Chg.refl (fun k => k = nbx) w).drewN q) (p := ⟨nbx, 0, none⟩) (.inl rfl) _⟩
set_option maxHeartbeats 1000000 in
theorem ask_Room (h : IsDisk w d rb n lay D) (hn : 0 < n) (i : Nat) (hi : i < n) :
    Calls Try.prog 38 #[.pointer (some ⟨d, 0, none⟩), .int .i64 (i : Int), .func (.func 41) #[] #[]] w fun e w' => e = .returned (.tuple #[.int .i64 (((D i).size : Int) - ((D i).bytes.length : Int)), .int .i64 0]) ∧ Below w.heap.size w w' := by
  obtain ⟨wa, hwa⟩ : ∃ wa : World, wa = (w.alloc (.cells #[.func (.func 41) #[] #[]] 75)).alloc (.cells #[.int .i64 0] 3) := ⟨_, rfl⟩
  have HB : Hid (Below w.heap.size w wa) := by rw [hwa]; exact ((Below.refl _ _).alloc (Nat.le_refl _) _).alloc (by simp) _
  have hb1 : Blk wa w.heap.size 75 #[.func (.func 41) #[] #[]] := by rw [hwa]; exact (Blk.new w _ _).alloc _
  have hb2 : Blk wa (w.heap.size + 1) 3 #[.int .i64 0] := by
    rw [hwa]
    have := Blk.new (w.alloc (.cells #[.func (.func 41) #[] #[]] 75)) 3 #[.int .i64 0]
    rw [World.size_alloc] at this
    exact this
  have HD := Lib.hid (h.below HB.out)
  have HC := Lib.hid (with_ask HD.out hn i hi (.pointer (some ⟨w.heap.size, 0, none⟩)) (.pointer (some ⟨w.heap.size + 1, 0, none⟩)) _ (cl_Room (HD.out.img i hi) w.heap.size (w.heap.size + 1) (by omega) (hb1.cell 0) hb2))
  have HWA := Lib.hid hwa
  clear h hb1 hb2 hwa
  go_enter Try.func38, Try.ntmps38
  go_wp2_with fail
  rw [← HWA.out]
  refine HC.out.mono ?_
  rintro e w' ⟨r, rfl, hq⟩
  have c1 : w'.cell? ⟨w.heap.size + 1, 0, none⟩ = some (.int .i64 (((D i).size : Int) - ((D i).bytes.length : Int))) := hq.out.2.1.cell 0
  have hr0 : r = 0 := hq.out.1
  have HBW : Hid (Below w.heap.size w w') := HB.out.trans (hq.out.2.2.below (by have := HB.out.size; exact this) (fun k hk => by omega))
  subst hr0
  clear hq
  go_wp2_with fail
  go_ret2
  exact ⟨rfl, HBW.out⟩
set_option maxHeartbeats 400000 in
theorem disk_room (h : IsDisk w d rb n lay D) (hn : 0 < n) (i : Nat) (hi : i < n) :
    Calls Try.prog 17 #[.pointer (some ⟨d, 0, none⟩), .int .i64 (i : Int)] w fun e w' => e = .returned (.tuple #[.int .i64 (((D i).size : Int) - ((D i).bytes.length : Int)), .int .i64 0]) ∧ Below w.heap.size w w' := by
  have HC := Lib.hid (ask_Room h hn i hi)
  clear h
  go_enter Try.func17, Try.ntmps17
  go_wp2_with fail
  refine HC.out.mono ?_
  rintro e w' ⟨rfl, hb⟩
  have HB := Lib.hid hb
  clear hb
  go_wp2_with fail
  go_ret2
  exact ⟨rfl, HB.out⟩
set_option maxHeartbeats 1000000 in
theorem ask_range (h : IsDisk w d rb n lay D) (hn : 0 < n) (i : Int) (hi : i < 0 ∨ (n : Int) ≤ i) (K : Nat) :
    Calls Try.prog 38 #[.pointer (some ⟨d, 0, none⟩), .int .i64 i, .func (.func K) #[] #[]] w fun e w' => e = .returned (.tuple #[.int .i64 0, .int .i64 3]) ∧ Below w.heap.size w w' := by
  obtain ⟨wa, hwa⟩ : ∃ wa : World, wa = (w.alloc (.cells #[.func (.func K) #[] #[]] 75)).alloc (.cells #[.int .i64 0] 3) := ⟨_, rfl⟩
  have HB : Hid (Below w.heap.size w wa) := by rw [hwa]; exact ((Below.refl _ _).alloc (Nat.le_refl _) _).alloc (by simp) _
  have hb2 : Blk wa (w.heap.size + 1) 3 #[.int .i64 0] := by
    rw [hwa]
    have := Blk.new (w.alloc (.cells #[.func (.func K) #[] #[]] 75)) 3 #[.int .i64 0]
    rw [World.size_alloc] at this
    exact this
  have c1 : wa.cell? ⟨w.heap.size + 1, 0, none⟩ = some (.int .i64 0) := hb2.cell 0
  have HD := Lib.hid (h.below HB.out)
  have HI := Lib.hid hi
  have HWA := Lib.hid hwa
  clear h hb2 hwa hi
  go_enter Try.func38, Try.ntmps38
  go_wp2_with fail
  rw [← HWA.out]
  refine (with_range HD.out hn i HI.out _).mono ?_
  rintro e w' ⟨rfl, rfl⟩
  go_wp2_with fail
  go_ret2
  exact ⟨rfl, HB.out⟩
set_option maxHeartbeats 400000 in
theorem disk_len_range (h : IsDisk w d rb n lay D) (hn : 0 < n) (i : Int) (hi : i < 0 ∨ (n : Int) ≤ i) :
    Calls Try.prog 15 #[.pointer (some ⟨d, 0, none⟩), .int .i64 i] w fun e w' => e = .returned (.tuple #[.int .i64 0, .int .i64 3]) ∧ Below w.heap.size w w' := by
  have HC := Lib.hid (ask_range h hn i hi 39)
  clear h hi
  go_enter Try.func15, Try.ntmps15
  go_wp2_with fail
  refine HC.out.mono ?_
  rintro e w' ⟨rfl, hb⟩
  have HB := Lib.hid hb
  clear hb
  go_wp2_with fail
  go_ret2
  exact ⟨rfl, HB.out⟩
set_option maxHeartbeats 400000 in
theorem disk_durable_range (h : IsDisk w d rb n lay D) (hn : 0 < n) (i : Int) (hi : i < 0 ∨ (n : Int) ≤ i) :
    Calls Try.prog 16 #[.pointer (some ⟨d, 0, none⟩), .int .i64 i] w fun e w' => e = .returned (.tuple #[.int .i64 0, .int .i64 3]) ∧ Below w.heap.size w w' := by
  have HC := Lib.hid (ask_range h hn i hi 40)
  clear h hi
  go_enter Try.func16, Try.ntmps16
  go_wp2_with fail
  refine HC.out.mono ?_
  rintro e w' ⟨rfl, hb⟩
  have HB := Lib.hid hb
  clear hb
  go_wp2_with fail
  go_ret2
  exact ⟨rfl, HB.out⟩
set_option maxHeartbeats 400000 in
theorem disk_room_range (h : IsDisk w d rb n lay D) (hn : 0 < n) (i : Int) (hi : i < 0 ∨ (n : Int) ≤ i) :
    Calls Try.prog 17 #[.pointer (some ⟨d, 0, none⟩), .int .i64 i] w fun e w' => e = .returned (.tuple #[.int .i64 0, .int .i64 3]) ∧ Below w.heap.size w w' := by
  have HC := Lib.hid (ask_range h hn i hi 41)
  clear h hi
  go_enter Try.func17, Try.ntmps17
  go_wp2_with fail
  refine HC.out.mono ?_
  rintro e w' ⟨rfl, hb⟩
  have HB := Lib.hid hb
  clear hb
  go_wp2_with fail
  go_ret2
  exact ⟨rfl, HB.out⟩
set_option maxHeartbeats 1000000 in
theorem ask_no (h : NoDisk w p) (i : Int) (K : Nat) :
    Calls Try.prog 38 #[.pointer p, .int .i64 i, .func (.func K) #[] #[]] w fun e w' => e = .returned (.tuple #[.int .i64 0, .int .i64 1]) ∧ Below w.heap.size w w' := by
  obtain ⟨wa, hwa⟩ : ∃ wa : World, wa = (w.alloc (.cells #[.func (.func K) #[] #[]] 75)).alloc (.cells #[.int .i64 0] 3) := ⟨_, rfl⟩
  have HB : Hid (Below w.heap.size w wa) := by rw [hwa]; exact ((Below.refl _ _).alloc (Nat.le_refl _) _).alloc (by simp) _
  have hb2 : Blk wa (w.heap.size + 1) 3 #[.int .i64 0] := by
    rw [hwa]
    have := Blk.new (w.alloc (.cells #[.func (.func K) #[] #[]] 75)) 3 #[.int .i64 0]
    rw [World.size_alloc] at this
    exact this
  have c1 : wa.cell? ⟨w.heap.size + 1, 0, none⟩ = some (.int .i64 0) := hb2.cell 0
  have HD := Lib.hid (h.below HB.out)
  have HWA := Lib.hid hwa
  clear h hb2 hwa
  go_enter Try.func38, Try.ntmps38
  go_wp2_with fail
  rw [← HWA.out]
  refine (with_nodisk HD.out i _).mono ?_
  rintro e w' ⟨rfl, rfl⟩
  go_wp2_with fail
  go_ret2
  exact ⟨rfl, HB.out⟩
set_option maxHeartbeats 400000 in
theorem disk_len_no (h : NoDisk w p) (i : Int) :
    Calls Try.prog 15 #[.pointer p, .int .i64 i] w fun e w' => e = .returned (.tuple #[.int .i64 0, .int .i64 1]) ∧ Below w.heap.size w w' := by
  have HC := Lib.hid (ask_no h i 39)
  clear h
  go_enter Try.func15, Try.ntmps15
  go_wp2_with fail
  refine HC.out.mono ?_
  rintro e w' ⟨rfl, hb⟩
  have HB := Lib.hid hb
  clear hb
  go_wp2_with fail
  go_ret2
  exact ⟨rfl, HB.out⟩
set_option maxHeartbeats 400000 in
theorem disk_durable_no (h : NoDisk w p) (i : Int) :
    Calls Try.prog 16 #[.pointer p, .int .i64 i] w fun e w' => e = .returned (.tuple #[.int .i64 0, .int .i64 1]) ∧ Below w.heap.size w w' := by
  have HC := Lib.hid (ask_no h i 40)
  clear h
  go_enter Try.func16, Try.ntmps16
  go_wp2_with fail
  refine HC.out.mono ?_
  rintro e w' ⟨rfl, hb⟩
  have HB := Lib.hid hb
  clear hb
  go_wp2_with fail
  go_ret2
  exact ⟨rfl, HB.out⟩
set_option maxHeartbeats 400000 in
theorem disk_room_no (h : NoDisk w p) (i : Int) :
    Calls Try.prog 17 #[.pointer p, .int .i64 i] w fun e w' => e = .returned (.tuple #[.int .i64 0, .int .i64 1]) ∧ Below w.heap.size w w' := by
  have HC := Lib.hid (ask_no h i 41)
  clear h
  go_enter Try.func17, Try.ntmps17
  go_wp2_with fail
  refine HC.out.mono ?_
  rintro e w' ⟨rfl, hb⟩
  have HB := Lib.hid hb
  clear hb
  go_wp2_with fail
  go_ret2
  exact ⟨rfl, HB.out⟩
/-- What a read gives: the value, the error. -/
def ReadQ (w : World) (l : List (BitVec 8)) (off m : Int) (v : Value) (r : Int) (w' : World) : Prop :=
  (∃ a b : Nat, off = a ∧ m = b ∧ a + b ≤ l.length ∧ r = 0 ∧ w'.ownsRow w.heap.size 5 1 v b (u8s ((l.drop a).take b))) ∨ (badRead l.length off m ∧ r = 3 ∧ v = .slice none 0 0)
theorem read_any (hi : IsImg w g fb l size dur) (off m : Int) :
    Calls Try.prog 37 #[.pointer (some ⟨g, 0, none⟩), .int .i64 off, .int .i64 m] w fun e w' => ∃ v r, e = .returned (.tuple #[v, .int .i64 r]) ∧ ReadQ w l off m v r w' ∧ Below w.heap.size w w' := by
  rcases bad_or l.length off m with h | ⟨a, b, rfl, rfl, hab⟩
  · refine (read_img_bad hi off m h).mono ?_
    rintro e w' ⟨rfl, rfl⟩
    exact ⟨_, 3, rfl, .inr ⟨h, rfl, rfl⟩, Below.refl _ _⟩
  · refine (read_img hi a b hab).mono ?_
    rintro e w' ⟨v, rfl, h1, h2⟩
    exact ⟨v, 0, rfl, .inl ⟨a, b, rfl, rfl, hab, rfl, h1⟩, h2⟩
set_option maxHeartbeats 1000000 in
theorem cl_read (hi : IsImg w g fb l size dur) (ob nb bb : Nat) (off m : Int) (ho : w.cell? ⟨ob, 0, none⟩ = some (.int .i64 off)) (hn : w.cell? ⟨nb, 0, none⟩ = some (.int .i64 m)) (hb : Blk w bb 36 #[.slice none 0 0]) :
    Calls Try.prog 36 #[.pointer (some ⟨g, 0, none⟩), .pointer (some ⟨ob, 0, none⟩), .pointer (some ⟨nb, 0, none⟩), .pointer (some ⟨bb, 0, none⟩)] w fun e w' => ∃ r, e = .returned (.int .i64 r) ∧
      ∃ v w2, Blk w' bb 36 #[v] ∧ ReadQ w l off m v r w2 ∧ Below w.heap.size w w2 ∧ w' = w2.setCell ⟨bb, 0, none⟩ v ∧ ∃ A k c, v = .slice A k c := by
  have HC := Lib.hid (read_any hi off m)
  have HN := Lib.hid hb
  have hlt := hb.lt
  clear hi hb
  go_enter Try.func36, Try.ntmps36
  go_wp2_with fail
  refine HC.out.mono ?_
  rintro e w2 ⟨v, r, rfl, hq, hbl⟩
  have HK : Hid (Blk w2 bb 36 #[.slice none 0 0]) := HN.out.below hbl hlt
  have hsl : ∃ A k c, v = .slice A k c := by
    rcases hq with ⟨a, b, _, _, _, _, h⟩ | ⟨_, _, h⟩
    · obtain ⟨A, c, h1, _⟩ := own_slice h
      exact ⟨A, b, c, h1⟩
    · exact ⟨none, 0, 0, h⟩
  obtain ⟨A, k, c, rfl⟩ := hsl
  have HQ := Lib.hid hq
  have HBL := Lib.hid hbl
  have c1 : w2.cell? ⟨bb, 0, none⟩ = some (.slice none 0 0) := HK.out.cell 0
  have f1 := HK.out.frozen 0
  clear hq hbl ho hn
  go_wp2_with fail
  go_ret
  exact ⟨r, rfl, _, w2, HK.out.set_ 0 _, HQ.out, HBL.out, rfl, A, k, c, rfl⟩
def DReadQ (w : World) (n : Nat) (D : Nat → SlotD) (i off m : Int) (v : Value) (r : Int) (w' : World) : Prop :=
  (∃ (s : Nat) (a b : Nat), i = s ∧ s < n ∧ off = a ∧ m = b ∧ a + b ≤ (D s).bytes.length ∧ r = 0 ∧ w'.ownsRow w.heap.size 5 1 v b (u8s (((D s).bytes.drop a).take b))) ∨ (∃ s : Nat, i = s ∧ s < n ∧ badRead (D s).bytes.length off m ∧ r = 3 ∧ v = .slice none 0 0) ∨
    ((i < 0 ∨ (n : Int) ≤ i) ∧ r = 3 ∧ v = .slice none 0 0)
set_option maxHeartbeats 2000000 in
theorem disk_read (h : IsDisk w d rb n lay D) (hn : 0 < n) (i off m : Int) :
    Calls Try.prog 14 #[.pointer (some ⟨d, 0, none⟩), .int .i64 i, .int .i64 off, .int .i64 m] w fun e w' => ∃ v r, e = .returned (.tuple #[v, .int .i64 r]) ∧ DReadQ w n D i off m v r w' ∧ Below w.heap.size w w' := by
  obtain ⟨wa, hwa⟩ : ∃ wa : World, wa = ((w.alloc (.cells #[.int .i64 off] 3)).alloc (.cells #[.int .i64 m] 3)).alloc (.cells #[.slice none 0 0] 36) := ⟨_, rfl⟩
  have hbl : Below w.heap.size w wa := by rw [hwa]; exact (((Below.refl _ _).alloc (Nat.le_refl _) _).alloc (by simp) _).alloc (by simp; omega) _
  have hsa : wa.heap.size = w.heap.size + 3 := by rw [hwa]; simp
  have b1 : Blk wa w.heap.size 3 #[.int .i64 off] := by rw [hwa]; exact ((Blk.new w _ _).alloc _).alloc _
  have b2 : Blk wa (w.heap.size + 1) 3 #[.int .i64 m] := by
    rw [hwa]
    have := (Blk.new (w.alloc (.cells #[.int .i64 off] 3)) 3 #[.int .i64 m]).alloc (.cells #[.slice none 0 0] 36)
    rw [World.size_alloc] at this
    exact this
  have b3 : Blk wa (w.heap.size + 1 + 1) 36 #[.slice none 0 0] := by
    rw [hwa]
    have := Blk.new ((w.alloc (.cells #[.int .i64 off] 3)).alloc (.cells #[.int .i64 m] 3)) 36 #[.slice none 0 0]
    rw [World.size_alloc, World.size_alloc] at this
    exact this
  have HB := Lib.hid hbl
  have HD := Lib.hid (h.below hbl)
  have HWA := Lib.hid hwa
  have HSA := Lib.hid hsa
  clear h hwa hbl hsa
  by_cases hi : i < 0 ∨ (n : Int) ≤ i
  · have c1 : wa.cell? ⟨w.heap.size + 1 + 1, 0, none⟩ = some (.slice none 0 0) := b3.cell 0
    have HI := Lib.hid hi
    clear b1 b2 b3 hi
    go_enter Try.func14, Try.ntmps14
    go_wp2_with fail
    rw [← HWA.out]
    refine (with_range HD.out hn i HI.out _).mono ?_
    rintro e w' ⟨rfl, rfl⟩
    go_wp2_with fail
    go_ret2
    exact ⟨_, 3, rfl, .inr (.inr ⟨HI.out, rfl, rfl⟩), HB.out⟩
  · obtain ⟨s, rfl⟩ := Int.eq_ofNat_of_zero_le (show 0 ≤ i by omega)
    have hs : s < n := by omega
    have HC := Lib.hid (with_Read HD.out hn s hs (.pointer (some ⟨w.heap.size, 0, none⟩)) (.pointer (some ⟨w.heap.size + 1, 0, none⟩)) (.pointer (some ⟨w.heap.size + 1 + 1, 0, none⟩)) _ (cl_read (HD.out.img s hs) w.heap.size (w.heap.size + 1) (w.heap.size + 1 + 1) off m (b1.cell 0) (b2.cell 0) b3))
    clear b1 b2 b3 hi
    go_enter Try.func14, Try.ntmps14
    go_wp2_with fail
    rw [← HWA.out]
    refine HC.out.mono ?_
    rintro e w' ⟨r, rfl, hq⟩
    obtain ⟨v, w2, hk, hq2, hb2, hw', A, k, c, rfl⟩ := hq.out
    have c1 : w'.cell? ⟨w.heap.size + 1 + 1, 0, none⟩ = some (.slice A k c) := hk.cell 0
    have hbw : Below w.heap.size w w' := by
      rw [hw']
      exact (HB.out.trans (hb2.mono (by have := HSA.out; omega))).setCell (p := ⟨w.heap.size + 1 + 1, 0, none⟩) (by simp; omega) _
    have hD : DReadQ w n D (s : Int) off m (.slice A k c) r w' := by
      rcases hq2 with ⟨a, b, h1, h2, h3, h4, h5⟩ | ⟨h1, h2, h3⟩
      · refine .inl ⟨s, a, b, rfl, hs, h1, h2, h3, h4, ?_⟩
        have h6 : ∀ q, (Value.slice A k c).ownBlock = some q → wa.heap.size ≤ q := fun q hq => (h5.lt q hq).1
        have h7 := own_chg h5 ((Chg.refl (fun q => q = w.heap.size + 1 + 1) w2).setCell (p := ⟨w.heap.size + 1 + 1, 0, none⟩) (.inl rfl) (.slice A k c)) (fun q hq e => by have := h6 q hq; have := HSA.out; omega)
        rw [hw']
        exact own_base h7 (fun q hq => by have := h6 q hq; have := HSA.out; omega)
      · exact .inr (.inl ⟨s, rfl, hs, h1, h2, h3⟩)
    have HBW := Lib.hid hbw
    have HDQ := Lib.hid hD
    clear hq hk hq2 hb2 hw' hbw hD
    go_wp2_with fail
    go_ret2
    exact ⟨_, r, rfl, HDQ.out, HBW.out⟩
set_option maxHeartbeats 1000000 in
theorem disk_read_no (h : NoDisk w p) (i off m : Int) :
    Calls Try.prog 14 #[.pointer p, .int .i64 i, .int .i64 off, .int .i64 m] w fun e w' => e = .returned (.tuple #[.slice none 0 0, .int .i64 1]) ∧ Below w.heap.size w w' := by
  obtain ⟨wa, hwa⟩ : ∃ wa : World, wa = ((w.alloc (.cells #[.int .i64 off] 3)).alloc (.cells #[.int .i64 m] 3)).alloc (.cells #[.slice none 0 0] 36) := ⟨_, rfl⟩
  have hbl : Below w.heap.size w wa := by rw [hwa]; exact (((Below.refl _ _).alloc (Nat.le_refl _) _).alloc (by simp) _).alloc (by simp; omega) _
  have b3 : Blk wa (w.heap.size + 1 + 1) 36 #[.slice none 0 0] := by
    rw [hwa]
    have := Blk.new ((w.alloc (.cells #[.int .i64 off] 3)).alloc (.cells #[.int .i64 m] 3)) 36 #[.slice none 0 0]
    rw [World.size_alloc, World.size_alloc] at this
    exact this
  have c1 : wa.cell? ⟨w.heap.size + 1 + 1, 0, none⟩ = some (.slice none 0 0) := b3.cell 0
  have HB := Lib.hid hbl
  have HD := Lib.hid (h.below hbl)
  have HWA := Lib.hid hwa
  clear h hwa hbl b3
  go_enter Try.func14, Try.ntmps14
  go_wp2_with fail
  rw [← HWA.out]
  refine (with_nodisk HD.out i _).mono ?_
  rintro e w' ⟨rfl, rfl⟩
  go_wp2_with fail
  go_ret2
  exact ⟨rfl, HB.out⟩
end
end Go.Proofs.Ytelobbigpgfobaa

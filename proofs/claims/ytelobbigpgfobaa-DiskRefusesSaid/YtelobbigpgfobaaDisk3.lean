/-
  A disk's methods: Append, Sync, Erase, Read, Len, Durable, Room. Conditions: the disk is as New makes it; what is appended can be read.
-/
import Derived.Test.YtelobbigpgfobaaDisk2
namespace Go.Proofs.Ytelobbigpgfobaa
open Go.RowKit
set_option linter.unusedVariables false
/-- A disk has turned: what it holds now; only its own blocks, and new ones. -/
def DiskTo (w w' : World) (d : Nat) (rb : Option Nat) (n : Nat) (lay : Lay) (D' : Nat → SlotD) : Prop :=
  ∃ lay', IsDisk w' d rb n lay' D' ∧ Chg (dfoot d rb n lay) w w' ∧ ∀ k, dfoot d rb n lay' k → dfoot d rb n lay k ∨ w.heap.size ≤ k
def inRange (n : Nat) (i : Int) : Prop := 0 ≤ i ∧ i < (n : Int)
instance (n : Nat) (i : Int) : Decidable (inRange n i) := by unfold inRange; infer_instance
def appE (D : Nat → SlotD) (i : Nat) (b : List (BitVec 8)) : Int := if (D i).bytes.length + b.length ≤ (D i).size then 0 else 4
def appD (D : Nat → SlotD) (i : Nat) (b : List (BitVec 8)) : Nat → SlotD := if (D i).bytes.length + b.length ≤ (D i).size then updF D i ⟨(D i).size, (D i).bytes ++ b, (D i).dur⟩ else D
def syncD (D : Nat → SlotD) (i : Nat) : Nat → SlotD := updF D i ⟨(D i).size, (D i).bytes, (D i).bytes.length⟩
def eraseD (D : Nat → SlotD) (i : Nat) : Nat → SlotD := updF D i ⟨(D i).size, [], 0⟩
section
variable {w w' w1 : World} {d n : Nat} {rb : Option Nat} {lay : Lay} {D : Nat → SlotD} {p : Option Addr} {g : Nat} {fb : Option Nat} {l : List (BitVec 8)} {size dur : Nat}
theorem DiskTo.refl (h : IsDisk w d rb n lay D) (hb : Below w.heap.size w w') : DiskTo w w' d rb n lay D := ⟨lay, h.below hb, Chg.of_below hb, fun _ h => .inl h⟩
theorem DiskTo.before (h : DiskTo w1 w' d rb n lay D) (hb : Below w.heap.size w w1) : DiskTo w w' d rb n lay D := by
  obtain ⟨lay', h1, h2, h3⟩ := h
  have := hb.size
  exact ⟨lay', h1, (Chg.of_below (F := dfoot d rb n lay) hb).trans h2 (fun _ _ h => h), fun k hk => (h3 k hk).imp id (fun e => by omega)⟩
theorem DiskTo.of_img (h : IsDisk w d rb n lay D) {i : Nat} (hi : i < n) {fb' : Option Nat} {x : SlotD} (hx : IsImg w' (lay i).1 fb' x.bytes x.size x.dur) (hc : Chg (sfoot lay i) w w') (hfb : ∀ k, fb' = some k → (lay i).2 = some k ∨ w.heap.size ≤ k) :
    DiskTo w w' d rb n lay (updF D i x) := by
  obtain ⟨h1, h2⟩ := h.upd hi hx hc hfb
  exact ⟨_, h1, hc.mono (fun k _ hk => .inr (.inr ⟨i, hi, hk⟩)), h2⟩
theorem updF_id (D : Nat → SlotD) (i : Nat) : updF D i (D i) = D := by
  funext j
  unfold updF
  by_cases h : j = i
  · rw [if_pos h, h]
  · rw [if_neg h]
def AppQ (w : World) (g : Nat) (fb : Option Nat) (l : List (BitVec 8)) (size dur : Nat) (b : List (BitVec 8)) (r : Int) (w' : World) : Prop :=
  (l.length + b.length ≤ size ∧ r = 0 ∧ ∃ fb', IsImg w' g fb' (l ++ b) size dur ∧ Chg (foot g fb) w w' ∧ ∀ k, fb' = some k → fb = some k ∨ w.heap.size ≤ k) ∨ (size < l.length + b.length ∧ r = 4 ∧ Below w.heap.size w w')
set_option maxHeartbeats 400000 in
theorem cl_append (hi : IsImg w g fb l size dur) (bb : Nat) (A : Option Addr) (m c : Nat) (b : List (BitVec 8)) (hc : w.cell? ⟨bb, 0, none⟩ = some (.slice A m c)) (hv : Holds w (.slice A m c) b) :
    Calls Try.prog 42 #[.pointer (some ⟨g, 0, none⟩), .pointer (some ⟨bb, 0, none⟩)] w fun e w' => ∃ r, e = .returned (.int .i64 r) ∧ AppQ w g fb l size dur b r w' := by
  obtain ⟨A', m', c', e, hm, hmc, hcm, hr⟩ := hv
  injection e with e1 e2 e3
  subst e1 e2 e3
  by_cases hf : l.length + b.length ≤ size
  · have HC := Lib.hid (append_img hi A m c _ b hr (by omega))
    have HF := Lib.hid hf
    clear hi hr hm hmc hcm hf
    go_enter Try.func42, Try.ntmps42
    go_wp2_with fail
    refine HC.out.mono ?_
    rintro e w' ⟨rfl, hq⟩
    have HQ := Lib.hid hq
    clear hq
    go_wp2_with fail
    go_ret
    obtain ⟨fb', h1, h2, h3⟩ := HQ.out
    exact ⟨0, rfl, .inl ⟨HF.out, rfl, fb', h1, h2, fresh_of h3⟩⟩
  · have HC := Lib.hid (append_img_full hi A m c (by omega) (by omega))
    have HF := Lib.hid hf
    clear hi hr hm hmc hcm hf
    go_enter Try.func42, Try.ntmps42
    go_wp2_with fail
    refine HC.out.mono ?_
    rintro e w' ⟨rfl, hq⟩
    have HQ := Lib.hid hq
    clear hq
    go_wp2_with fail
    go_ret
    obtain ⟨q, rfl⟩ := HQ.out
    exact ⟨4, rfl, .inr ⟨by have := HF.out; omega, rfl, ⟨rfl, rfl, rfl, Nat.le_refl _, fun _ _ => rfl⟩⟩⟩
set_option maxHeartbeats 1000000 in
theorem disk_append (h : IsDisk w d rb n lay D) (hn : 0 < n) (i : Nat) (hi : i < n) (v : Value) (b : List (BitVec 8)) (hv : Holds w v b) :
    Calls Try.prog 18 #[.pointer (some ⟨d, 0, none⟩), .int .i64 (i : Int), v] w fun e w' => e = .returned (.int .i64 (appE D i b)) ∧ DiskTo w w' d rb n lay (appD D i b) := by
  obtain ⟨A, m, c, rfl, hm, hmc, hcm, hr⟩ := hv
  have HB : Hid (Below w.heap.size w (w.alloc (.cells #[.slice A m c] 36))) := (Below.refl _ _).alloc (Nat.le_refl _) _
  have HD := Lib.hid (h.below HB.out)
  have hv1 : Holds (w.alloc (.cells #[.slice A m c] 36)) (.slice A m c) b := Holds.below ⟨A, m, c, rfl, hm, hmc, hcm, hr⟩ HB.out
  have hc1 : (w.alloc (.cells #[.slice A m c] 36)).cell? ⟨w.heap.size, 0, none⟩ = some (.slice A m c) := (Blk.new w _ _).cell 0
  have HC := Lib.hid (with_Append HD.out hn i hi (.pointer (some ⟨w.heap.size, 0, none⟩)) _ (cl_append (HD.out.img i hi) w.heap.size A m c b hc1 hv1))
  clear h hm hmc hcm hr hv1 hc1
  go_enter Try.func18, Try.ntmps18
  go_wp2_with fail
  refine HC.out.mono ?_
  rintro e w' ⟨r, rfl, hq⟩
  go_wp2_with fail
  go_ret
  have hr2 : r = appE D i b ∧ DiskTo w w' d rb n lay (appD D i b) := by
    unfold appE appD
    rcases hq.out with ⟨h1, h2, fb', h3, h4, h5⟩ | ⟨h1, h2, h3⟩
    · rw [if_pos h1, if_pos h1]
      exact ⟨h2, (DiskTo.of_img (x := ⟨(D i).size, (D i).bytes ++ b, (D i).dur⟩) HD.out hi h3 h4 h5).before HB.out⟩
    · rw [if_neg (by omega), if_neg (by omega)]
      exact ⟨h2, (DiskTo.refl HD.out h3).before HB.out⟩
  exact ⟨ret_eq (by rw [← hr2.1]; rfl), hr2.2⟩
set_option maxHeartbeats 400000 in
theorem cl_Sync (hi : IsImg w g fb l size dur) :
    Calls Try.prog 44 #[.pointer (some ⟨g, 0, none⟩)] w fun e w' => ∃ r, e = .returned (.int .i64 r) ∧ (r = 0 ∧ IsImg w' g fb l size l.length ∧ Chg (foot g fb) w w') := by
  have HC := Lib.hid (sync_img hi)
  clear hi
  go_enter Try.func44, Try.ntmps44
  go_wp2_with fail
  refine HC.out.mono ?_
  rintro e w' ⟨rfl, hq⟩
  have HQ := Lib.hid hq
  clear hq
  go_wp2_with fail
  go_ret
  exact ⟨0, rfl, rfl, HQ.out⟩
set_option maxHeartbeats 400000 in
theorem disk_sync (h : IsDisk w d rb n lay D) (hn : 0 < n) (i : Nat) (hi : i < n) :
    Calls Try.prog 19 #[.pointer (some ⟨d, 0, none⟩), .int .i64 (i : Int)] w fun e w' => e = .returned (.int .i64 0) ∧ DiskTo w w' d rb n lay (syncD D i) := by
  have HD := Lib.hid h
  have HC := Lib.hid (with_Sync h hn i hi _ (cl_Sync (h.img i hi)))
  clear h
  go_enter Try.func19, Try.ntmps19
  go_wp2_with fail
  refine HC.out.mono ?_
  rintro e w' ⟨r, rfl, hq⟩
  go_wp2_with fail
  go_ret
  obtain ⟨h1, h2, h3⟩ := hq.out
  exact ⟨ret_eq (by rw [← h1]; rfl), DiskTo.of_img (x := ⟨(D i).size, (D i).bytes, (D i).bytes.length⟩) HD.out hi h2 h3 (fun k hk => .inl hk)⟩
set_option maxHeartbeats 400000 in
theorem cl_Erase (hi : IsImg w g fb l size dur) :
    Calls Try.prog 46 #[.pointer (some ⟨g, 0, none⟩)] w fun e w' => ∃ r, e = .returned (.int .i64 r) ∧ (r = 0 ∧ IsImg w' g none [] size 0 ∧ Chg (foot g fb) w w') := by
  have HC := Lib.hid (erase_img hi)
  clear hi
  go_enter Try.func46, Try.ntmps46
  go_wp2_with fail
  refine HC.out.mono ?_
  rintro e w' ⟨rfl, hq⟩
  have HQ := Lib.hid hq
  clear hq
  go_wp2_with fail
  go_ret
  exact ⟨0, rfl, rfl, HQ.out⟩
set_option maxHeartbeats 400000 in
theorem disk_erase (h : IsDisk w d rb n lay D) (hn : 0 < n) (i : Nat) (hi : i < n) :
    Calls Try.prog 20 #[.pointer (some ⟨d, 0, none⟩), .int .i64 (i : Int)] w fun e w' => e = .returned (.int .i64 0) ∧ DiskTo w w' d rb n lay (eraseD D i) := by
  have HD := Lib.hid h
  have HC := Lib.hid (with_Erase h hn i hi _ (cl_Erase (h.img i hi)))
  clear h
  go_enter Try.func20, Try.ntmps20
  go_wp2_with fail
  refine HC.out.mono ?_
  rintro e w' ⟨r, rfl, hq⟩
  go_wp2_with fail
  go_ret
  obtain ⟨h1, h2, h3⟩ := hq.out
  exact ⟨ret_eq (by rw [← h1]; rfl), DiskTo.of_img (x := ⟨(D i).size, [], 0⟩) HD.out hi h2 h3 (fun k hk => by cases hk)⟩
set_option maxHeartbeats 400000 in
theorem disk_append_range (h : IsDisk w d rb n lay D) (hn : 0 < n) (i : Int) (hi : i < 0 ∨ (n : Int) ≤ i) (A : Option Addr) (m c : Nat) :
    Calls Try.prog 18 #[.pointer (some ⟨d, 0, none⟩), .int .i64 i, .slice A m c] w fun e w' => e = .returned (.int .i64 3) ∧ Below w.heap.size w w' := by
  have HB : Hid (Below w.heap.size w (w.alloc (.cells #[.slice A m c] 36))) := (Below.refl _ _).alloc (Nat.le_refl _) _
  have HH := Lib.hid (h.below HB.out)
  have HI := Lib.hid hi
  clear h hi
  go_enter Try.func18, Try.ntmps18
  go_wp2_with fail
  refine (with_range HH.out hn i HI.out _).mono ?_
  rintro e w' ⟨rfl, rfl⟩
  go_wp2_with fail
  go_ret
  exact ⟨rfl, HB.out⟩
set_option maxHeartbeats 400000 in
theorem disk_append_no (h : NoDisk w p) (i : Int) (A : Option Addr) (m c : Nat) :
    Calls Try.prog 18 #[.pointer p, .int .i64 i, .slice A m c] w fun e w' => e = .returned (.int .i64 1) ∧ Below w.heap.size w w' := by
  have HB : Hid (Below w.heap.size w (w.alloc (.cells #[.slice A m c] 36))) := (Below.refl _ _).alloc (Nat.le_refl _) _
  have HH := Lib.hid (h.below HB.out)
  clear h
  go_enter Try.func18, Try.ntmps18
  go_wp2_with fail
  refine (with_nodisk HH.out i _).mono ?_
  rintro e w' ⟨rfl, rfl⟩
  go_wp2_with fail
  go_ret
  exact ⟨rfl, HB.out⟩
set_option maxHeartbeats 400000 in
theorem disk_sync_range (h : IsDisk w d rb n lay D) (hn : 0 < n) (i : Int) (hi : i < 0 ∨ (n : Int) ≤ i) :
    Calls Try.prog 19 #[.pointer (some ⟨d, 0, none⟩), .int .i64 i] w fun e w' => e = .returned (.int .i64 3) ∧ w = w' := by
  have HH := Lib.hid h
  have HI := Lib.hid hi
  clear h hi
  go_enter Try.func19, Try.ntmps19
  go_wp2_with fail
  refine (with_range HH.out hn i HI.out _).mono ?_
  rintro e w' ⟨rfl, rfl⟩
  go_wp2_with fail
  go_ret
  exact ⟨rfl, rfl⟩
set_option maxHeartbeats 400000 in
theorem disk_sync_no (h : NoDisk w p) (i : Int) :
    Calls Try.prog 19 #[.pointer p, .int .i64 i] w fun e w' => e = .returned (.int .i64 1) ∧ w = w' := by
  have HH := Lib.hid h
  clear h
  go_enter Try.func19, Try.ntmps19
  go_wp2_with fail
  refine (with_nodisk HH.out i _).mono ?_
  rintro e w' ⟨rfl, rfl⟩
  go_wp2_with fail
  go_ret
  exact ⟨rfl, rfl⟩
set_option maxHeartbeats 400000 in
theorem disk_erase_range (h : IsDisk w d rb n lay D) (hn : 0 < n) (i : Int) (hi : i < 0 ∨ (n : Int) ≤ i) :
    Calls Try.prog 20 #[.pointer (some ⟨d, 0, none⟩), .int .i64 i] w fun e w' => e = .returned (.int .i64 3) ∧ w = w' := by
  have HH := Lib.hid h
  have HI := Lib.hid hi
  clear h hi
  go_enter Try.func20, Try.ntmps20
  go_wp2_with fail
  refine (with_range HH.out hn i HI.out _).mono ?_
  rintro e w' ⟨rfl, rfl⟩
  go_wp2_with fail
  go_ret
  exact ⟨rfl, rfl⟩
set_option maxHeartbeats 400000 in
theorem disk_erase_no (h : NoDisk w p) (i : Int) :
    Calls Try.prog 20 #[.pointer p, .int .i64 i] w fun e w' => e = .returned (.int .i64 1) ∧ w = w' := by
  have HH := Lib.hid h
  clear h
  go_enter Try.func20, Try.ntmps20
  go_wp2_with fail
  refine (with_nodisk HH.out i _).mono ?_
  rintro e w' ⟨rfl, rfl⟩
  go_wp2_with fail
  go_ret
  exact ⟨rfl, rfl⟩
end
end Go.Proofs.Ytelobbigpgfobaa

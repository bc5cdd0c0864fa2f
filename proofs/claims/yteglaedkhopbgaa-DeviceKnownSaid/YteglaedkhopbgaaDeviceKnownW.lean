/-
  The walk of the law DeviceKnown: it returns true and writes nothing that was there. No condition.
-/
import Derived.Test.YteglaedkhopbgaaMJ
namespace Go.Proofs.Yteglaedkhopbgaa
open Go.RowKit Go.Shelf
set_option linter.unusedVariables false
/-- The disk of the greatest device; what its slots 31 and 33 hold. -/
def kD (x y : SlotD) : Nat → SlotD := fun i => if i = 31 then x else if i = 33 then y else if i < 32 then ⟨8192, [], 0⟩ else ⟨64, [], 0⟩
theorem kD_new : ∀ i, i < 34 → kD ⟨8192, [], 0⟩ ⟨64, [], 0⟩ i = (newVD 32 8192).D i := by
  intro i hi
  unfold kD newVD
  dsimp only
  by_cases h1 : i = 31
  · rw [if_pos h1, if_pos (by omega)]
  · rw [if_neg h1]
    by_cases h2 : i = 33
    · rw [if_pos h2, if_neg (by omega)]
    · rw [if_neg h2]
      by_cases h3 : i < 32
      · rw [if_pos h3, if_pos h3]
      · rw [if_neg h3, if_neg h3]
theorem kE33 {x y : SlotD} {k : Nat} {b : List (BitVec 8)} : appVE ⟨32, kD x y, none, k, false⟩ 33 b = if y.bytes.length + b.length ≤ y.size then 0 else 4 := rfl
theorem kE31 {x y : SlotD} {k : Nat} {b : List (BitVec 8)} : appVE ⟨32, kD x y, none, k, false⟩ 31 b = if x.bytes.length + b.length ≤ x.size then 0 else 4 := rfl
theorem kD_33 (x y z : SlotD) : updF (kD x y) 33 z = kD x z := by
  funext i
  unfold updF kD
  by_cases h : i = 33
  · rw [if_pos h, if_neg (by omega), if_pos h]
  · rw [if_neg h, if_neg h, if_neg h]
theorem kD_31 (x y z : SlotD) : updF (kD x y) 31 z = kD z y := by
  funext i
  unfold updF kD
  by_cases h : i = 31
  · rw [if_pos h, if_pos h]
  · rw [if_neg h, if_neg h, if_neg h]
theorem kX33 {x y : SlotD} {k : Nat} {b : List (BitVec 8)} (h : y.bytes.length + b.length ≤ y.size) : appVX ⟨32, kD x y, none, k, false⟩ 33 b = ⟨32, kD x ⟨y.size, y.bytes ++ b, y.dur⟩, none, k + 1, false⟩ := by
  have e : appVX ⟨32, kD x y, none, k, false⟩ 33 b = if y.bytes.length + b.length ≤ y.size then ⟨32, appD (kD x y) 33 b, none, k + 1, false⟩ else ⟨32, kD x y, none, k, false⟩ := rfl
  rw [e, if_pos h, show appD (kD x y) 33 b = (if y.bytes.length + b.length ≤ y.size then updF (kD x y) 33 ⟨y.size, y.bytes ++ b, y.dur⟩ else kD x y) from rfl, if_pos h, kD_33]
theorem kX33n {x y : SlotD} {k : Nat} {b : List (BitVec 8)} (h : ¬ y.bytes.length + b.length ≤ y.size) : appVX ⟨32, kD x y, none, k, false⟩ 33 b = ⟨32, kD x y, none, k, false⟩ := by
  have e : appVX ⟨32, kD x y, none, k, false⟩ 33 b = if y.bytes.length + b.length ≤ y.size then ⟨32, appD (kD x y) 33 b, none, k + 1, false⟩ else ⟨32, kD x y, none, k, false⟩ := rfl
  rw [e, if_neg h]
theorem kX31 {x y : SlotD} {k : Nat} {b : List (BitVec 8)} (h : x.bytes.length + b.length ≤ x.size) : appVX ⟨32, kD x y, none, k, false⟩ 31 b = ⟨32, kD ⟨x.size, x.bytes ++ b, x.dur⟩ y, none, k + 1, false⟩ := by
  have e : appVX ⟨32, kD x y, none, k, false⟩ 31 b = if x.bytes.length + b.length ≤ x.size then ⟨32, appD (kD x y) 31 b, none, k + 1, false⟩ else ⟨32, kD x y, none, k, false⟩ := rfl
  rw [e, if_pos h, show appD (kD x y) 31 b = (if x.bytes.length + b.length ≤ x.size then updF (kD x y) 31 ⟨x.size, x.bytes ++ b, x.dur⟩ else kD x y) from rfl, if_pos h, kD_31]
theorem kX31n {x y : SlotD} {k : Nat} {b : List (BitVec 8)} (h : ¬ x.bytes.length + b.length ≤ x.size) : appVX ⟨32, kD x y, none, k, false⟩ 31 b = ⟨32, kD x y, none, k, false⟩ := by
  have e : appVX ⟨32, kD x y, none, k, false⟩ 31 b = if x.bytes.length + b.length ≤ x.size then ⟨32, appD (kD x y) 31 b, none, k + 1, false⟩ else ⟨32, kD x y, none, k, false⟩ := rfl
  rw [e, if_neg h]
theorem ztake (n k : Nat) (h : k ≤ n) : (zbytes n).take k = zbytes k := by
  unfold zbytes
  rw [List.take_replicate, Nat.min_eq_left h]
theorem kD_map (f : SlotD → SlotD) (x y : SlotD) (h1 : f ⟨8192, [], 0⟩ = ⟨8192, [], 0⟩) (h2 : f ⟨64, [], 0⟩ = ⟨64, [], 0⟩) (i : Nat) : f (kD x y i) = kD (f x) (f y) i := by
  unfold kD
  by_cases e1 : i = 31
  · rw [if_pos e1, if_pos e1]
  · rw [if_neg e1, if_neg e1]
    by_cases e2 : i = 33
    · rw [if_pos e2, if_pos e2]
    · rw [if_neg e2, if_neg e2]
      by_cases e3 : i < 32
      · rw [if_pos e3, h1]
      · rw [if_neg e3, h2]
theorem keep_one (z : Int) (i : Nat) : keepAt [z] i = z := by
  unfold keepAt
  rw [show i % [z].length = 0 from Nat.mod_one i]
  rfl
theorem kD_crash : ∀ i, i < 34 → kD ⟨8192, zbytes 5, 5⟩ ⟨64, zbytes 5, 5⟩ i = crashD [5] (kD ⟨8192, zbytes 8192, 0⟩ ⟨64, zbytes 64, 0⟩) i := by
  intro i _
  unfold crashD
  rw [keep_one, kD_map (crashS 5) _ _ rfl rfl]
  have e1 : crashS 5 ⟨8192, zbytes 8192, 0⟩ = ⟨8192, zbytes 5, 5⟩ := by
    unfold crashS crashN
    simp only [zbytes_length]
    rw [show 0 + min (5 : Int).toNat (8192 - 0) = 5 from rfl, ztake _ _ (by omega)]
  have e2 : crashS 5 ⟨64, zbytes 64, 0⟩ = ⟨64, zbytes 5, 5⟩ := by
    unfold crashS crashN
    simp only [zbytes_length]
    rw [show 0 + min (5 : Int).toNat (64 - 0) = 5 from rfl, ztake _ _ (by omega)]
  rw [e1, e2]
theorem kD_crash0 : ∀ i, i < 34 → kD ⟨8192, zbytes 5, 5⟩ ⟨64, zbytes 5, 5⟩ i = crashD [0] (kD ⟨8192, zbytes 5, 5⟩ ⟨64, zbytes 5, 5⟩) i := by
  intro i _
  unfold crashD
  rw [keep_one, kD_map (crashS 0) _ _ rfl rfl]
  rfl
theorem kD_sync (x y : SlotD) : ∀ i, i < 34 → kD x y i = syncD (kD x y) 0 i := by
  intro i _
  show kD x y i = updF (kD x y) 0 (kD x y 0) i
  rw [updF_id]
set_option maxHeartbeats 8000000 in
set_option maxRecDepth 100000 in
theorem DeviceKnown_walk (w : World) :
    Calls Try.prog 3 #[] w fun e w' => e = .returned (.bool true) ∧ Below w.heap.size w w' := by
  have mk64 : ∀ W, (Instr.makeSlice 27 (.int .i64 64) (.int .i64 64)).run Try.prog W = .ok (.slice (some ⟨W.heap.size, 0, none⟩) 64 64) (W.alloc (.cells (u8s (zbytes 64)).toArray 5)) := fun W => make_bytes .i64 64 (by omega) W
  have mk1 : ∀ W, (Instr.makeSlice 27 (.int .i64 1) (.int .i64 1)).run Try.prog W = .ok (.slice (some ⟨W.heap.size, 0, none⟩) 1 1) (W.alloc (.cells (u8s (zbytes 1)).toArray 5)) := fun W => make_bytes .i64 1 (by omega) W
  have mk8192 : ∀ W, (Instr.makeSlice 27 (.int .i64 8192) (.int .i64 8192)).run Try.prog W = .ok (.slice (some ⟨W.heap.size, 0, none⟩) 8192 8192) (W.alloc (.cells (u8s (zbytes 8192)).toArray 5)) := fun W => make_bytes .i64 8192 (by omega) W
  go_enter Try.func3, Try.ntmps3
  go_wp2_with fail
  refine (sep_vnew (Sep.start w) 32 8192 (by omega) (by omega) (by omega) (by omega)).mono ?_
  rintro e w0 ⟨v, L0, rfl, hs⟩
  have H0 : Hid (Sep w.heap.size w w0 (devOb v L0 ⟨32, kD ⟨8192, [], 0⟩ ⟨64, [], 0⟩, none, 0, false⟩ :: [])) := hs.vto rfl rfl rfl rfl kD_new
  clear hs
  go_wp2_with fail
  refine (sep_vappend_obj (H0.out.newObj _ _ rfl) AllCells.nil (by decide) 33 (zbytes 64) 64 64 rfl (zbytes_length 64).symm (by omega) (by unfold maxLen; omega)).mono ?_
  rintro e w1 ⟨rfl, L1, hs⟩
  rw [show appVE ⟨32, kD ⟨8192, [], 0⟩ ⟨64, [], 0⟩, none, 0, false⟩ 33 (zbytes 64) = 0 from by rw [kE33, zbytes_length]; rfl]
  rw [kX33 (by rw [zbytes_length]; decide)] at hs
  have H1 : Hid (Sep w.heap.size w w1 (devOb v L1 ⟨32, kD ⟨8192, [], 0⟩ ⟨64, zbytes 64, 0⟩, none, 1, false⟩ :: [])) := hs
  clear hs
  go_wp2_with fail
  refine (sep_vappend_obj (H1.out.newObj _ _ rfl) AllCells.nil (by decide) 33 (zbytes 1) 1 1 rfl (zbytes_length 1).symm (by omega) (by unfold maxLen; omega)).mono ?_
  rintro e w2 ⟨rfl, L2, hs⟩
  rw [show appVE ⟨32, kD ⟨8192, [], 0⟩ ⟨64, zbytes 64, 0⟩, none, 1, false⟩ 33 (zbytes 1) = 4 from by rw [kE33, zbytes_length, zbytes_length]; rfl]
  rw [kX33n (by rw [zbytes_length, zbytes_length]; decide)] at hs
  have H2 : Hid (Sep w.heap.size w w2 (devOb v L2 ⟨32, kD ⟨8192, [], 0⟩ ⟨64, zbytes 64, 0⟩, none, 1, false⟩ :: [])) := hs
  clear hs
  go_wp2_with fail
  refine (sep_vappend_obj (H2.out.newObj _ _ rfl) AllCells.nil (by decide) 31 (zbytes 8192) 8192 8192 rfl (zbytes_length 8192).symm (by omega) (by unfold maxLen; omega)).mono ?_
  rintro e w3 ⟨rfl, L3, hs⟩
  rw [show appVE ⟨32, kD ⟨8192, [], 0⟩ ⟨64, zbytes 64, 0⟩, none, 1, false⟩ 31 (zbytes 8192) = 0 from by rw [kE31, zbytes_length]; rfl]
  rw [kX31 (by rw [zbytes_length]; decide)] at hs
  have H3 : Hid (Sep w.heap.size w w3 (devOb v L3 ⟨32, kD ⟨8192, zbytes 8192, 0⟩ ⟨64, zbytes 64, 0⟩, none, 2, false⟩ :: [])) := hs
  clear hs
  go_wp2_with fail
  refine (sep_vappend H3.out AllCells.nil (by decide) 31 (vb := .slice none 0 0) (b := []) (fun W _ => holds_nil W)).mono ?_
  rintro e w4 ⟨rfl, L4, hs⟩
  rw [show appVE ⟨32, kD ⟨8192, zbytes 8192, 0⟩ ⟨64, zbytes 64, 0⟩, none, 2, false⟩ 31 [] = 0 from by rw [kE31, zbytes_length]; rfl]
  rw [kX31 (by rw [zbytes_length]; decide), List.append_nil] at hs
  have H4 : Hid (Sep w.heap.size w w4 (devOb v L4 ⟨32, kD ⟨8192, zbytes 8192, 0⟩ ⟨64, zbytes 64, 0⟩, none, 3, false⟩ :: [])) := hs
  clear hs
  go_wp2_with fail
  refine (sep_vappend_obj (H4.out.newObj _ _ rfl) AllCells.nil (by decide) 31 (zbytes 1) 1 1 rfl (zbytes_length 1).symm (by omega) (by unfold maxLen; omega)).mono ?_
  rintro e w5 ⟨rfl, L5, hs⟩
  rw [show appVE ⟨32, kD ⟨8192, zbytes 8192, 0⟩ ⟨64, zbytes 64, 0⟩, none, 3, false⟩ 31 (zbytes 1) = 4 from by rw [kE31, zbytes_length, zbytes_length]; rfl]
  rw [kX31n (by rw [zbytes_length, zbytes_length]; decide)] at hs
  have H5 : Hid (Sep w.heap.size w w5 (devOb v L5 ⟨32, kD ⟨8192, zbytes 8192, 0⟩ ⟨64, zbytes 64, 0⟩, none, 3, false⟩ :: [])) := hs
  clear hs
  go_wp2_with fail
  refine (sep_vappend H5.out AllCells.nil (by decide) 34 (vb := .slice none 0 0) (b := []) (fun W _ => holds_nil W)).mono ?_
  rintro e w6 ⟨rfl, L6, hs⟩
  rw [show appVE ⟨32, kD ⟨8192, zbytes 8192, 0⟩ ⟨64, zbytes 64, 0⟩, none, 3, false⟩ 34 [] = 3 from rfl]
  rw [show appVX ⟨32, kD ⟨8192, zbytes 8192, 0⟩ ⟨64, zbytes 64, 0⟩, none, 3, false⟩ 34 [] = ⟨32, kD ⟨8192, zbytes 8192, 0⟩ ⟨64, zbytes 64, 0⟩, none, 3, false⟩ from rfl] at hs
  have H6 : Hid (Sep w.heap.size w w6 (devOb v L6 ⟨32, kD ⟨8192, zbytes 8192, 0⟩ ⟨64, zbytes 64, 0⟩, none, 3, false⟩ :: [])) := hs
  clear hs
  go_wp2_with fail
  refine (plan_any 0 false _ 1 1 _).mono ?_
  rintro e w6b ⟨rfl, hb⟩
  have H6b := Lib.hid ((H6.out.newBlk _ 3 #[Value.int .i64 5] rfl).below hb)
  clear hb
  go_wp2_with fail
  refine (sep_varm_blk H6b.out AllCells.nil 0 false [5] 1 rfl rfl (by unfold maxLen; omega) (by omega)).mono ?_
  rintro e w7 ⟨rfl, L7, hs⟩
  rw [show armE 0 [5] = 0 from rfl]
  have H7 : Hid (Sep w.heap.size w w7 (devOb v L7 ⟨32, kD ⟨8192, zbytes 5, 5⟩ ⟨64, zbytes 5, 5⟩, none, 3, true⟩ :: [])) := hs.vto rfl rfl rfl rfl kD_crash
  clear hs
  go_wp2_with fail
  refine (sep_vappend H7.out AllCells.nil (by decide) 34 (vb := .slice none 0 0) (b := []) (fun W _ => holds_nil W)).mono ?_
  rintro e w8 ⟨rfl, L8, hs⟩
  rw [show appVE ⟨32, kD ⟨8192, zbytes 5, 5⟩ ⟨64, zbytes 5, 5⟩, none, 3, true⟩ 34 [] = 13 from rfl]
  rw [show appVX ⟨32, kD ⟨8192, zbytes 5, 5⟩ ⟨64, zbytes 5, 5⟩, none, 3, true⟩ 34 [] = ⟨32, kD ⟨8192, zbytes 5, 5⟩ ⟨64, zbytes 5, 5⟩, none, 3, true⟩ from rfl] at hs
  have H8 : Hid (Sep w.heap.size w w8 (devOb v L8 ⟨32, kD ⟨8192, zbytes 5, 5⟩ ⟨64, zbytes 5, 5⟩, none, 3, true⟩ :: [])) := hs
  clear hs
  go_wp2_with fail
  refine (plan_any 0 false _ 1 1 _).mono ?_
  rintro e w8b ⟨rfl, hb⟩
  have H8b := Lib.hid ((H8.out.newBlk _ 3 #[Value.int .i64 0] rfl).below hb)
  clear hb
  go_wp2_with fail
  refine (sep_varm_blk H8b.out AllCells.nil 0 false [0] 1 rfl rfl (by unfold maxLen; omega) (by omega)).mono ?_
  rintro e w9 ⟨rfl, L9, hs⟩
  rw [show armE 0 [0] = 0 from rfl]
  have H9 : Hid (Sep w.heap.size w w9 (devOb v L9 ⟨32, kD ⟨8192, zbytes 5, 5⟩ ⟨64, zbytes 5, 5⟩, none, 3, true⟩ :: [])) := hs.vto rfl rfl rfl rfl (fun i _ => rfl)
  clear hs
  go_wp2_with fail
  refine (plan_any 2 false _ 1 1 _).mono ?_
  rintro e w9b ⟨rfl, hb⟩
  have H9b := Lib.hid ((H9.out.newBlk _ 3 #[Value.int .i64 0] rfl).below hb)
  clear hb
  go_wp2_with fail
  refine (sep_varm_blk H9b.out AllCells.nil 2 false [0] 1 rfl rfl (by unfold maxLen; omega) (by omega)).mono ?_
  rintro e w10 ⟨rfl, L10, hs⟩
  rw [show armE 2 [0] = 0 from rfl]
  have H10 : Hid (Sep w.heap.size w w10 (devOb v L10 ⟨32, kD ⟨8192, zbytes 5, 5⟩ ⟨64, zbytes 5, 5⟩, (some ⟨2, false, [0]⟩), 3, true⟩ :: [])) := hs.vto rfl rfl rfl rfl (fun i _ => rfl)
  clear hs
  go_wp2_with fail
  refine (dev_down H10.out.dev).mono ?_
  rintro e w11 ⟨rfl, hq⟩
  have H11 : Hid (Sep w.heap.size w w11 (devOb v L10 ⟨32, kD ⟨8192, zbytes 5, 5⟩ ⟨64, zbytes 5, 5⟩, (some ⟨2, false, [0]⟩), 3, true⟩ :: [])) := by rw [← hq]; exact H10.out
  clear hq
  obtain ⟨L11, hL⟩ : ∃ L11, L10 = L11 := ⟨_, rfl⟩
  rw [hL] at H11
  clear hL
  go_wp2_with fail
  refine (sep_vrestart H11.out).mono ?_
  rintro e w12 ⟨rfl, hs⟩
  have H12 : Hid (Sep w.heap.size w w12 (devOb v L11 ⟨32, kD ⟨8192, zbytes 5, 5⟩ ⟨64, zbytes 5, 5⟩, (some ⟨2, false, [0]⟩), 3, false⟩ :: [])) := hs
  clear hs
  obtain ⟨L12, hL⟩ : ∃ L12, L11 = L12 := ⟨_, rfl⟩
  rw [hL] at H12
  clear hL
  go_wp2_with fail
  refine (sep_vrestart H12.out).mono ?_
  rintro e w13 ⟨rfl, hs⟩
  have H13 : Hid (Sep w.heap.size w w13 (devOb v L12 ⟨32, kD ⟨8192, zbytes 5, 5⟩ ⟨64, zbytes 5, 5⟩, (some ⟨2, false, [0]⟩), 3, false⟩ :: [])) := hs
  clear hs
  obtain ⟨L13, hL⟩ : ∃ L13, L12 = L13 := ⟨_, rfl⟩
  rw [hL] at H13
  clear hL
  go_wp2_with fail
  refine (dev_len H13.out.dev 31).mono ?_
  rintro e w14 ⟨rfl, hb⟩
  have H14 := Lib.hid (H13.out.below hb)
  clear hb
  obtain ⟨L14, hL⟩ : ∃ L14, L13 = L14 := ⟨_, rfl⟩
  rw [hL] at H14
  clear hL
  rw [show lenV ⟨32, kD ⟨8192, zbytes 5, 5⟩ ⟨64, zbytes 5, 5⟩, (some ⟨2, false, [0]⟩), 3, false⟩ 31 = 5 from by show (((zbytes 5).length : Nat) : Int) = 5; rw [zbytes_length]; rfl, show chkE ⟨32, kD ⟨8192, zbytes 5, 5⟩ ⟨64, zbytes 5, 5⟩, (some ⟨2, false, [0]⟩), 3, false⟩ 31 = 0 from rfl]
  go_wp2_with fail
  refine (dev_len H14.out.dev 33).mono ?_
  rintro e w15 ⟨rfl, hb⟩
  have H15 := Lib.hid (H14.out.below hb)
  clear hb
  obtain ⟨L15, hL⟩ : ∃ L15, L14 = L15 := ⟨_, rfl⟩
  rw [hL] at H15
  clear hL
  rw [show lenV ⟨32, kD ⟨8192, zbytes 5, 5⟩ ⟨64, zbytes 5, 5⟩, (some ⟨2, false, [0]⟩), 3, false⟩ 33 = 5 from by show (((zbytes 5).length : Nat) : Int) = 5; rw [zbytes_length]; rfl, show chkE ⟨32, kD ⟨8192, zbytes 5, 5⟩ ⟨64, zbytes 5, 5⟩, (some ⟨2, false, [0]⟩), 3, false⟩ 33 = 0 from rfl]
  go_wp2_with fail
  refine (dev_ops H15.out.dev).mono ?_
  rintro e w16 ⟨rfl, hq⟩
  have H16 : Hid (Sep w.heap.size w w16 (devOb v L15 ⟨32, kD ⟨8192, zbytes 5, 5⟩ ⟨64, zbytes 5, 5⟩, (some ⟨2, false, [0]⟩), 3, false⟩ :: [])) := by rw [← hq]; exact H15.out
  clear hq
  obtain ⟨L16, hL⟩ : ∃ L16, L15 = L16 := ⟨_, rfl⟩
  rw [hL] at H16
  clear hL
  go_wp2_with fail
  refine (sep_vsync H16.out AllCells.nil (by decide) 0).mono ?_
  rintro e w17 ⟨rfl, L17, hs⟩
  rw [show oneVE ⟨32, kD ⟨8192, zbytes 5, 5⟩ ⟨64, zbytes 5, 5⟩, (some ⟨2, false, [0]⟩), 3, false⟩ 0 = 0 from rfl]
  have H17 : Hid (Sep w.heap.size w w17 (devOb v L17 ⟨32, kD ⟨8192, zbytes 5, 5⟩ ⟨64, zbytes 5, 5⟩, (some ⟨1, false, [0]⟩), 4, false⟩ :: [])) := hs.vto rfl rfl rfl rfl (kD_sync _ _)
  clear hs
  go_wp2_with fail
  refine (sep_vsync H17.out AllCells.nil (by decide) 0).mono ?_
  rintro e w18 ⟨rfl, L18, hs⟩
  rw [show oneVE ⟨32, kD ⟨8192, zbytes 5, 5⟩ ⟨64, zbytes 5, 5⟩, (some ⟨1, false, [0]⟩), 4, false⟩ 0 = 13 from rfl]
  have H18 : Hid (Sep w.heap.size w w18 (devOb v L18 ⟨32, kD ⟨8192, zbytes 5, 5⟩ ⟨64, zbytes 5, 5⟩, none, 5, true⟩ :: [])) := hs.vto rfl rfl rfl rfl kD_crash0
  clear hs
  go_wp2_with fail
  refine (sep_vrestart H18.out).mono ?_
  rintro e w19 ⟨rfl, hs⟩
  have H19 : Hid (Sep w.heap.size w w19 (devOb v L18 ⟨32, kD ⟨8192, zbytes 5, 5⟩ ⟨64, zbytes 5, 5⟩, none, 5, false⟩ :: [])) := hs
  clear hs
  obtain ⟨L19, hL⟩ : ∃ L19, L18 = L19 := ⟨_, rfl⟩
  rw [hL] at H19
  clear hL
  go_wp2_with fail
  refine (sep_vsync H19.out AllCells.nil (by decide) 0).mono ?_
  rintro e w20 ⟨rfl, L20, hs⟩
  rw [show oneVE ⟨32, kD ⟨8192, zbytes 5, 5⟩ ⟨64, zbytes 5, 5⟩, none, 5, false⟩ 0 = 0 from rfl]
  have H20 : Hid (Sep w.heap.size w w20 (devOb v L20 ⟨32, kD ⟨8192, zbytes 5, 5⟩ ⟨64, zbytes 5, 5⟩, none, 6, false⟩ :: [])) := hs.vto rfl rfl rfl rfl (kD_sync _ _)
  clear hs
  go_wp2_with fail
  refine (dev_ops H20.out.dev).mono ?_
  rintro e w21 ⟨rfl, hq⟩
  have H21 : Hid (Sep w.heap.size w w21 (devOb v L20 ⟨32, kD ⟨8192, zbytes 5, 5⟩ ⟨64, zbytes 5, 5⟩, none, 6, false⟩ :: [])) := by rw [← hq]; exact H20.out
  clear hq
  obtain ⟨L21, hL⟩ : ∃ L21, L20 = L21 := ⟨_, rfl⟩
  rw [hL] at H21
  clear hL
  go_wp2_with fail
  refine (works_any w21).mono ?_
  rintro e w9 ⟨rfl, hb⟩
  have HB : Hid (Below w.heap.size w w9) := H21.out.bel.trans (hb.mono H21.out.big)
  clear hb
  go_wp2_with fail
  go_ret
  exact ⟨rfl, HB.out⟩
end Go.Proofs.Yteglaedkhopbgaa

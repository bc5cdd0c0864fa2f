/-
  The walk of the law DiskRefuses: it returns true and writes nothing that was there. No condition.
-/
import Derived.Test.YtelobbigpgfobaaKturns
import Derived.Test.YtelobbigpgfobaaDshow
namespace Go.Proofs.Ytelobbigpgfobaa
open Go.RowKit
set_option linter.unusedVariables false
theorem dnew_bad (A : Option Addr) (n c : Nat) (zs : List Int) (w : World) (hr : Reads w w.heap.size 1 A n (ints zs)) (hm : n ≤ maxLen) (h : n < 1 ∨ 34 < n ∨ ∃ z ∈ zs, ¬ okSize z) :
    Calls Try.prog 21 #[.slice A n c] w fun e w' => e = .returned (.tuple #[.pointer none, .int .i64 2]) ∧ Below w.heap.size w w' := by
  by_cases h0 : n < 1 ∨ 34 < n
  · exact (newdisk_len A n c w h0 hm).mono fun e w' ⟨h1, h2⟩ => ⟨h1, by rw [← h2]; exact Below.refl _ _⟩
  · refine (newdisk_any A n c zs w hr (by omega) (by omega)).mono ?_
    rintro e w' (⟨hok, _⟩ | ⟨_, h1, h2⟩)
    · obtain ⟨z, hz, hz2⟩ : ∃ z ∈ zs, ¬ okSize z := by
        rcases h with e | e | e
        · omega
        · omega
        · exact e
      exact absurd (hok z hz) hz2
    · exact ⟨h1, h2⟩
theorem zeros_ints (k : Nat) : (List.replicate k (Value.int .i64 0)).toArray.toList = ints (List.replicate k 0) := by simp [ints]
theorem zeros_u8s (k : Nat) : (List.replicate k (Value.int .u8 0)).toArray.toList = u8s (List.replicate k 0) := by
  rw [List.toList_toArray]; unfold u8s; rw [List.map_replicate]; congr 1; simp [u8v, n8]
theorem reads_zeros (W : World) (k : Nat) : Reads (W.alloc (.cells (List.replicate k (Value.int .i64 0)).toArray 3)) (W.alloc (.cells (List.replicate k (Value.int .i64 0)).toArray 3)).heap.size 1 (some ⟨W.heap.size, 0, none⟩) k (ints (List.replicate k 0)) := by
  have := reads_news W 3 (List.replicate k (Value.int .i64 0)).toArray (0, 0) k (by simp)
  rw [zeros_ints] at this
  exact this.more (by simp)
theorem reads_two (W : World) (x y : Int) : Reads (W.alloc (.cells #[.int .i64 x, .int .i64 y] 3)) (W.alloc (.cells #[.int .i64 x, .int .i64 y] 3)).heap.size 1 (some ⟨W.heap.size, 0, none⟩) 2 (ints [x, y]) :=
  (nums_new W (0, 0) [x, y] 2 _ rfl rfl).more (by simp)
theorem bal_below {W w' : World} {o : Obj} (h : Below (W.alloc o).heap.size (W.alloc o) w') : Below W.heap.size W w' := ((Below.refl _ W).alloc (Nat.le_refl _) o).trans (h.mono (by simp))
set_option maxRecDepth 100000 in
set_option maxHeartbeats 16000000 in
theorem DiskRefuses_w (a b : BitVec 8) (A : Option Addr) (m c : Nat) (ts : Nat → Turn4) (f : Nat) (w : World) (hf : f < 65536) (hr : TurnsAt w w.heap.size A m ts) (hn : m ≤ c) (hc : c ≤ maxLen) :
    Calls Try.prog 5 #[.int .u8 (n8 a), .int .u8 (n8 b), .slice A m c, .int .u16 (f : Int)] w fun e w' => e = .returned (.bool true) ∧ Below w.heap.size w w' := by
  have HR := Lib.hid hr
  unfold maxLen at hc
  clear hr
  by_cases hm : 60 < m
  · go_enter Try.func5, Try.ntmps5
    go_wp2_with fail
    refine (works_any _).mono ?_
    rintro e w9 ⟨rfl, hb⟩
    have HB := Lib.hid hb
    clear hb
    go_wp2_with fail
    go_ret
    exact ⟨rfl, HB.out⟩
  go_enter Try.func5, Try.ntmps5
  go_wp2_with fail
  refine (begin_any (Sep.start w) a b).mono ?_
  rintro e w1 ⟨k, gb, gd, d, rb, lay, S, rfl, hs⟩
  have hn0 : 0 < a.toNat % 8 + 1 := by omega
  have hn8 : a.toNat % 8 + 1 ≤ 65536 := by omega
  have hs40 : b.toNat % 40 + 1 ≤ 40 := by omega
  generalize a.toNat % 8 + 1 = n at hs hn0 hn8
  generalize b.toNat % 40 + 1 = size at hs hs40
  generalize (fun _ => (⟨size, [], 0⟩ : SlotD)) = D at hs
  have HS1 := Lib.hid hs
  have HCC : Hid (AllCells []) := fun o ho => by cases ho
  clear hs
  go_wp2_with fail
  go_loopg [10] m (fun q v10 wr => ∃ (j : Nat) (lay : Lay) (S : Nat → Prop) (D : Nat → SlotD), j + q = m ∧ v10 = .int .i64 j ∧ KSep w.heap.size w wr d rb lay S k gb gd size n D [])
  case atStart => exact ⟨0, lay, S, D, by omega, rfl, HS1.out⟩
  case round =>
    obtain ⟨j, lay, S, D, hj, rfl, hs⟩ := hrel
    have HJ := Lib.hid hj
    have hj' : j ≤ m := by omega
    have HS := Lib.hid hs
    by_cases hlt : j < m
    · obtain ⟨ad, ht⟩ := HR.out.below hs.bel j hlt
      obtain rfl := ht.a
      have c0 := ht.c0
      have c1 := ht.c1
      have c2 := ht.c2
      have c3 := ht.c3
      clear hj hs ht
      go_wp2_with fail
      refine (turn_any HS.out hn0 hn8 HCC.out _ _ _ _).mono ?_
      rintro e w3 ⟨rfl, lay3, S3, hs⟩
      have HS3 := Lib.hid hs
      clear hs c0 c1 c2 c3
      go_wp2_with fail
      go_roundg (gk - 1)
      case measure => have := HJ.out; omega
      case rel => exact ⟨j + 1, _, _, _, by have := HJ.out; omega, by go_num, HS3.out⟩
    · obtain ⟨k0, k1, k2, k3⟩ := hs.known.cells
      obtain ⟨u1, u2, u3, u4⟩ := (show IsDisk wr d rb n lay D from hs.get (.head _)).nums hn0
      have HD0 : Hid ((D 0).bytes.length ≤ 8192 ∧ (D 0).size = size) := ⟨by omega, (hs.known.nums 0 hn0).2.2⟩
      clear hj hs u1 u2 u3 u4
      go_wp2_with fail
      go_region
      go_wp2_with fail
      obtain ⟨W1, hW1⟩ : ∃ W1, W1 = (wr.alloc (.cells #[.int .i64 (-1 - (f : Int)), .int .i64 ((n : Int) + (f : Int))] 3)).drew := ⟨_, rfl⟩
      rw [← hW1]
      have HSW : Hid (KSep w.heap.size w W1 d rb lay S k gb gd size n D []) := by rw [hW1]; exact (HS.out.alloc _).drew
      have HBAD : Hid (∀ W, Below W1.heap.size W1 W → ∀ i, i < 2 → ∃ z, W.cell? ⟨wr.heap.size, i, none⟩ = some (.int .i64 z) ∧ (z < 0 ∨ (n : Int) ≤ z)) := fun W hW i hi => by
        have hb : Blk W1 wr.heap.size 3 #[.int .i64 (-1 - (f : Int)), .int .i64 ((n : Int) + (f : Int))] := by rw [hW1]; exact (Blk.new _ _ _).drew
        have hb2 := hb.below hW hb.lt
        have : i = 0 ∨ i = 1 := by omega
        rcases this with rfl | rfl
        · exact ⟨_, hb2.cell 0, .inl (by omega)⟩
        · exact ⟨_, hb2.cell 1, .inr (by omega)⟩
      obtain ⟨nb, hnb⟩ : ∃ nb, nb = wr.heap.size := ⟨_, rfl⟩
      rw [← hnb] at HBAD ⊢
      have HD : Hid (∀ W, Below W1.heap.size W1 W → IsDisk W d rb n lay D) := fun W hW => (show IsDisk W1 d rb n lay D from HSW.out.get (.head _)).below hW
      have HK : Hid (∀ W, Below W1.heap.size W1 W → W.cell? ⟨k, 0, none⟩ = some (.pointer (some ⟨d, 0, none⟩)) ∧ W.cell? ⟨k, 1, none⟩ = some (.int .i64 (size : Int))) := fun W hW => ⟨(HSW.out.known.below hW).cells.1, (HSW.out.known.below hW).cells.2.1⟩
      clear hW1 hnb k0 k1 k2 k3
      go_loopg [14] 2 (fun q v14 wr' => ∃ (j' : Nat), j' + q = 2 ∧ v14 = .int .i64 j' ∧ Below W1.heap.size W1 wr')
      case atStart => exact ⟨0, by omega, rfl, Below.refl _ _⟩
      case round =>
        obtain ⟨j', hj, rfl, hb⟩ := hrel
        have HJ' := Lib.hid hj
        have hjn : j' ≤ 2 := by omega
        have HB2 := Lib.hid hb
        by_cases hlt2 : j' < 2
        · obtain ⟨z, qz, hz⟩ := HBAD.out _ hb j' hlt2
          have k0 := (HK.out _ hb).1
          have HZ := Lib.hid hz
          have HQZ : Hid (∀ W, Below W1.heap.size W1 W → W.cell? ⟨nb, j', none⟩ = some (.int .i64 z)) := fun W hW => by
            obtain ⟨z', qz', _⟩ := HBAD.out W1 (Below.refl _ _) j' hlt2
            have hlt := block_lt_of_cell qz'
            exact ((hW.cell (p := ⟨nb, j', none⟩) hlt).trans (hb.cell (p := ⟨nb, j', none⟩) hlt).symm).trans qz
          clear hz
          have C14 : Hid (∀ X, Below W1.heap.size W1 X → Calls Try.prog 14 #[.pointer (some ⟨d, 0, none⟩), .int .i64 z, .int .i64 0, .int .i64 0] X fun e X' => e = .returned (.tuple #[.slice none 0 0, .int .i64 3]) ∧ (X'.cell? ⟨k, 0, none⟩ = some (.pointer (some ⟨d, 0, none⟩)) ∧ X'.cell? ⟨nb, j', none⟩ = some (.int .i64 z)) ∧ Below W1.heap.size W1 X') := fun X hX => (disk_read_range (HD.out X hX) hn0 z HZ.out 0 0).mono fun e X' ⟨h1, h2⟩ => ⟨h1, ⟨(HK.out _ (bt hX h2)).1, HQZ.out _ (bt hX h2)⟩, bt hX h2⟩
          have C15 : Hid (∀ X, Below W1.heap.size W1 X → Calls Try.prog 15 #[.pointer (some ⟨d, 0, none⟩), .int .i64 z] X fun e X' => e = .returned (.tuple #[.int .i64 0, .int .i64 3]) ∧ (X'.cell? ⟨k, 0, none⟩ = some (.pointer (some ⟨d, 0, none⟩)) ∧ X'.cell? ⟨nb, j', none⟩ = some (.int .i64 z)) ∧ Below W1.heap.size W1 X') := fun X hX => (disk_len_range (HD.out X hX) hn0 z HZ.out).mono fun e X' ⟨h1, h2⟩ => ⟨h1, ⟨(HK.out _ (bt hX h2)).1, HQZ.out _ (bt hX h2)⟩, bt hX h2⟩
          have C16 : Hid (∀ X, Below W1.heap.size W1 X → Calls Try.prog 16 #[.pointer (some ⟨d, 0, none⟩), .int .i64 z] X fun e X' => e = .returned (.tuple #[.int .i64 0, .int .i64 3]) ∧ (X'.cell? ⟨k, 0, none⟩ = some (.pointer (some ⟨d, 0, none⟩)) ∧ X'.cell? ⟨nb, j', none⟩ = some (.int .i64 z)) ∧ Below W1.heap.size W1 X') := fun X hX => (disk_durable_range (HD.out X hX) hn0 z HZ.out).mono fun e X' ⟨h1, h2⟩ => ⟨h1, ⟨(HK.out _ (bt hX h2)).1, HQZ.out _ (bt hX h2)⟩, bt hX h2⟩
          have C17 : Hid (∀ X, Below W1.heap.size W1 X → Calls Try.prog 17 #[.pointer (some ⟨d, 0, none⟩), .int .i64 z] X fun e X' => e = .returned (.tuple #[.int .i64 0, .int .i64 3]) ∧ (X'.cell? ⟨k, 0, none⟩ = some (.pointer (some ⟨d, 0, none⟩)) ∧ X'.cell? ⟨nb, j', none⟩ = some (.int .i64 z)) ∧ Below W1.heap.size W1 X') := fun X hX => (disk_room_range (HD.out X hX) hn0 z HZ.out).mono fun e X' ⟨h1, h2⟩ => ⟨h1, ⟨(HK.out _ (bt hX h2)).1, HQZ.out _ (bt hX h2)⟩, bt hX h2⟩
          have C18 : Hid (∀ X, Below W1.heap.size W1 X → Calls Try.prog 18 #[.pointer (some ⟨d, 0, none⟩), .int .i64 z, .slice none 0 0] X fun e X' => e = .returned (.int .i64 3) ∧ (X'.cell? ⟨k, 0, none⟩ = some (.pointer (some ⟨d, 0, none⟩)) ∧ X'.cell? ⟨nb, j', none⟩ = some (.int .i64 z)) ∧ Below W1.heap.size W1 X') := fun X hX => (disk_append_range (HD.out X hX) hn0 z HZ.out none 0 0).mono fun e X' ⟨h1, h2⟩ => ⟨h1, ⟨(HK.out _ (bt hX h2)).1, HQZ.out _ (bt hX h2)⟩, bt hX h2⟩
          have C19 : Hid (∀ X, Below W1.heap.size W1 X → Calls Try.prog 19 #[.pointer (some ⟨d, 0, none⟩), .int .i64 z] X fun e X' => e = .returned (.int .i64 3) ∧ (X'.cell? ⟨k, 0, none⟩ = some (.pointer (some ⟨d, 0, none⟩)) ∧ X'.cell? ⟨nb, j', none⟩ = some (.int .i64 z)) ∧ Below W1.heap.size W1 X') := fun X hX => (disk_sync_range (HD.out X hX) hn0 z HZ.out).mono fun e X' ⟨h1, h2⟩ => by subst h2; exact ⟨h1, ⟨(HK.out _ hX).1, HQZ.out _ hX⟩, hX⟩
          have C20 : Hid (∀ X, Below W1.heap.size W1 X → Calls Try.prog 20 #[.pointer (some ⟨d, 0, none⟩), .int .i64 z] X fun e X' => e = .returned (.int .i64 3) ∧ (X'.cell? ⟨k, 0, none⟩ = some (.pointer (some ⟨d, 0, none⟩)) ∧ X'.cell? ⟨nb, j', none⟩ = some (.int .i64 z)) ∧ Below W1.heap.size W1 X') := fun X hX => (disk_erase_range (HD.out X hX) hn0 z HZ.out).mono fun e X' ⟨h1, h2⟩ => by subst h2; exact ⟨h1, ⟨(HK.out _ hX).1, HQZ.out _ hX⟩, hX⟩
          clear hj hb
          go_wp2_with fail
          go_region_held3 (fun X' => X'.cell? ⟨k, 0, none⟩ = some (.pointer (some ⟨d, 0, none⟩)) ∧ X'.cell? ⟨nb, j', none⟩ = some (.int .i64 z)) (first | (constructor <;> assumption) | go_keep)
            (first | (go_at_call 14; refine (C14.out _ (by exact HB2.out.drew)).mono ?_; rintro e x4 ⟨rfl, ⟨k4, z4⟩, hx4⟩))
          have HX4 := Lib.hid hx4
          clear hx4
          go_wp2_with fail
          go_region_held3 (fun X' => X'.cell? ⟨k, 0, none⟩ = some (.pointer (some ⟨d, 0, none⟩)) ∧ X'.cell? ⟨nb, j', none⟩ = some (.int .i64 z)) (first | (constructor <;> assumption) | go_keep)
            (first | (go_at_call 15; refine (C15.out _ (by exact HX4.out.drew)).mono ?_; rintro e x5 ⟨rfl, ⟨k5, z5⟩, hx5⟩))
          have HX5 := Lib.hid hx5
          clear hx5
          go_wp2_with fail
          go_region_held3 (fun X' => X'.cell? ⟨k, 0, none⟩ = some (.pointer (some ⟨d, 0, none⟩)) ∧ X'.cell? ⟨nb, j', none⟩ = some (.int .i64 z)) (first | (constructor <;> assumption) | go_keep)
            (first | (go_at_call 16; refine (C16.out _ (by exact HX5.out.drew)).mono ?_; rintro e x6 ⟨rfl, ⟨k6, z6⟩, hx6⟩))
          have HX6 := Lib.hid hx6
          clear hx6
          go_wp2_with fail
          go_region_held3 (fun X' => X'.cell? ⟨k, 0, none⟩ = some (.pointer (some ⟨d, 0, none⟩)) ∧ X'.cell? ⟨nb, j', none⟩ = some (.int .i64 z)) (first | (constructor <;> assumption) | go_keep)
            (first | (go_at_call 17; refine (C17.out _ (by exact HX6.out.drew)).mono ?_; rintro e x7 ⟨rfl, ⟨k7, z7⟩, hx7⟩))
          have HX7 := Lib.hid hx7
          clear hx7
          go_wp2_with fail
          have hy7 : Below W1.heap.size W1 x7.drew := HX7.out.drew
          go_region_held3 (fun X' => X'.cell? ⟨k, 0, none⟩ = some (.pointer (some ⟨d, 0, none⟩)) ∧ X'.cell? ⟨nb, j', none⟩ = some (.int .i64 z)) (first | (constructor <;> assumption) | go_keep)
            (first
              | (go_at_call 18; refine (C18.out _ (by assumption)).mono ?_; rintro e x8 ⟨rfl, ⟨k8, z8⟩, hx8⟩)
              | (go_at_call 19; refine (C19.out _ (by assumption)).mono ?_; rintro e x9 ⟨rfl, ⟨k9, z9⟩, hx9⟩)
              | (go_at_call 20; refine (C20.out _ (by assumption)).mono ?_; rintro e x10 ⟨rfl, ⟨k10, z10⟩, hx10⟩))
          have HX10 := Lib.hid hx10
          clear hy7 hx8 hx9 hx10
          go_wp2_with fail
          go_roundg (gk - 1)
          case measure => have := HJ'.out; omega
          case rel => exact ⟨j' + 1, by have := HJ'.out; omega, by go_num, HX10.out⟩
        · have e8 : j' = 2 := by omega
          subst e8
          obtain ⟨k0, k1⟩ := HK.out _ hb
          obtain ⟨m1, hm1⟩ : ∃ m1 : Nat, (f : Int) % 100 = (m1 : Int) := ⟨f % 100, by omega⟩
          obtain ⟨m2, hm2⟩ : ∃ m2 : Nat, (f : Int) % 50 = (m2 : Int) := ⟨f % 50, by omega⟩
          have hm1b : m1 < 100 := by omega
          have hm2b : m2 < 50 := by omega
          obtain ⟨p1, hp1⟩ : ∃ p1 : Nat, (35 : Int) + (m1 : Int) = (p1 : Int) := ⟨35 + m1, by omega⟩
          obtain ⟨p2, hp2⟩ : ∃ p2 : Nat, (35 : Int) + (m2 : Int) = (p2 : Int) := ⟨35 + m2, by omega⟩
          obtain ⟨p3, hp3⟩ : ∃ p3 : Nat, (size : Int) + 1 + (m1 : Int) = (p3 : Int) := ⟨size + 1 + m1, by omega⟩
          have hp1b : 35 ≤ p1 ∧ p1 < 135 := by omega
          have hp2b : 35 ≤ p2 ∧ p2 < 85 := by omega
          have hp3b : size < p3 ∧ p3 ≤ 140 := by omega
          have hmk1 : ∀ W, (Instr.makeSlice 32 (.int .i64 (p1 : Int)) (.int .i64 (p1 : Int))).run Try.prog W = .ok (.slice (some ⟨W.heap.size, 0, none⟩) p1 p1) (W.alloc (.cells (List.replicate p1 (Value.int .i64 0)).toArray 3)) := fun W => make_one _ _ _ 8 Try.underlying32 int_info rfl (by omega) p1 (by omega) W
          have hmk2 : ∀ W, (Instr.makeSlice 32 (.int .i64 (p2 : Int)) (.int .i64 (p2 : Int))).run Try.prog W = .ok (.slice (some ⟨W.heap.size, 0, none⟩) p2 p2) (W.alloc (.cells (List.replicate p2 (Value.int .i64 0)).toArray 3)) := fun W => make_one _ _ _ 8 Try.underlying32 int_info rfl (by omega) p2 (by omega) W
          have hw3 : IntKind.i64.wrap (IntKind.i64.wrap ((size : Int) + 1) + (f : Int).tmod 100) = (p3 : Int) := by
            rw [Int.tmod_eq_emod_of_nonneg (by omega), hm1, show IntKind.i64.wrap ((size : Int) + 1) = (size : Int) + 1 by rw [IntKind.wrap_i64]; omega, IntKind.wrap_i64]
            omega
          have hmk3 : ∀ W, (Instr.makeSlice 36 (.int .i64 (IntKind.i64.wrap (IntKind.i64.wrap ((size : Int) + 1) + (f : Int).tmod 100))) (.int .i64 (IntKind.i64.wrap (IntKind.i64.wrap ((size : Int) + 1) + (f : Int).tmod 100)))).run Try.prog W = .ok (.slice (some ⟨W.heap.size, 0, none⟩) p3 p3) (W.alloc (.cells (Array.replicate p3 (Value.int .u8 0)) 5)) := fun W => by
            rw [hw3, ← List.toArray_replicate]
            exact make_one _ _ _ 1 Try.underlying36 u8_info rfl (by omega) p3 (by omega) W
          clear hw3
          have HP3 := Lib.hid hp3b
          clear hj hb
          go_wp2_with fail
          refine (disk_read_bad (HD.out _ HB2.out) hn0 0 hn0 (-1 - (f : Int)) (1 + (f : Int)) (.inl (by omega))).mono ?_
          rintro e x4 ⟨rfl, hb⟩
          have HB4 := Lib.hid (bt HB2.out hb)
          clear hb k0 k1
          obtain ⟨k0, k1⟩ := HK.out _ HB4.out
          go_wp2_with fail
          refine (disk_read_bad (HD.out _ HB4.out) hn0 0 hn0 0 (-1 - (f : Int)) (.inr (.inl ⟨by omega, by omega⟩))).mono ?_
          rintro e x5 ⟨rfl, hb⟩
          have HB5 := Lib.hid (bt HB4.out hb)
          clear hb k0 k1
          obtain ⟨k0, k1⟩ := HK.out _ HB5.out
          go_wp2_with fail
          refine (disk_read_bad (HD.out _ HB5.out) hn0 0 hn0 9223372036854775807 9223372036854775807 (.inr (.inr (.inl ⟨by omega, by omega, by have := HD0.out.1; omega⟩)))).mono ?_
          rintro e x6 ⟨rfl, hb⟩
          have HB6 := Lib.hid (bt HB5.out hb)
          clear hb k0 k1
          go_wp2_with fail
          refine (dnew_bad none 0 0 [] _ Reads.none_ (by unfold maxLen; omega) (.inl (by omega))).mono ?_
          rintro e x7 ⟨rfl, hb⟩
          have HB7 := Lib.hid (bt HB6.out hb)
          clear hb
          go_wp2_with fail
          try rw [hm1]
          go_wp2_with fail
          refine (dnew_bad _ p1 p1 (List.replicate p1 0) _ (reads_zeros _ _) (by unfold maxLen; omega) (.inr (.inl (by omega)))).mono ?_
          rintro e x8 ⟨rfl, hb⟩
          have HB8 := Lib.hid (bt HB7.out (bal_below hb))
          clear hb
          go_wp2_with fail
          refine (dnew_bad _ 2 2 [1, -(f : Int)] _ (reads_two _ _ _) (by unfold maxLen; omega) (.inr (.inr ⟨_, .tail _ (.head _), by unfold okSize; omega⟩))).mono ?_
          rintro e x9 ⟨rfl, hb⟩
          have HB9 := Lib.hid (bt HB8.out (bal_below hb))
          clear hb
          go_wp2_with fail
          refine (dnew_bad _ 2 2 [1, 8193 + (f : Int)] _ (reads_two _ _ _) (by unfold maxLen; omega) (.inr (.inr ⟨_, .tail _ (.head _), by unfold okSize; omega⟩))).mono ?_
          rintro e x10 ⟨rfl, hb⟩
          have HB10 := Lib.hid (bt HB9.out (bal_below hb))
          clear hb
          go_wp2_with fail
          try rw [hm2]
          go_wp2_with fail
          obtain ⟨W2, hW2⟩ : ∃ W2, W2 = x10.alloc (.cells (Array.replicate p2 (Value.int .i64 0)) 3) := ⟨_, rfl⟩
          obtain ⟨kp, hkp⟩ : ∃ kp, kp = x10.heap.size := ⟨_, rfl⟩
          have HKP : Hid (∀ X, Below W2.heap.size W2 X → Reads X X.heap.size 1 (some ⟨kp, 0, none⟩) p2 (ints (List.replicate p2 0))) := fun X hX => by
            have := reads_zeros x10 p2
            rw [List.toArray_replicate, ← hW2, ← hkp] at this
            exact (this.below hX).more hX.size
          have HB11 : Hid (Below W1.heap.size W1 W2) := by rw [hW2]; exact HB10.out.alloc HB10.out.size _
          rw [← hW2, ← hkp]
          obtain ⟨ST, hST⟩ : ∃ ST : World → Prop, ST = fun X => ∃ lay, KSep w.heap.size w X d rb lay S k gb gd size n D [] := ⟨_, rfl⟩
          have hcl : Hid (∀ X, ST X → X.cell? ⟨k, 0, none⟩ = some (.pointer (some ⟨d, 0, none⟩)) ∧ X.cell? ⟨k, 1, none⟩ = some (.int .i64 (size : Int))) := fun X hX => by
            rw [hST] at hX
            obtain ⟨lay, hX⟩ := hX
            exact ⟨hX.known.cells.1, hX.known.cells.2.1⟩
          have st0 : ST W2.drew := by rw [hST]; exact ⟨lay, (HSW.out.below HB11.out).drew⟩
          have C1 : Hid (∀ X, Below W2.heap.size W2 X → ST X → Calls Try.prog 22 #[.pointer (some ⟨d, 0, none⟩), .slice (some ⟨kp, 0, none⟩) p2 p2] X fun e X' => e = .returned (.int .i64 2) ∧ (X'.cell? ⟨k, 0, none⟩ = some (.pointer (some ⟨d, 0, none⟩)) ∧ X'.cell? ⟨k, 1, none⟩ = some (.int .i64 (size : Int))) ∧ ST X') := fun X hX hs => by
            rw [hST] at hs
            obtain ⟨lay, hs⟩ := hs
            refine (crashdisk_bad hs.disk hn0 _ p2 p2 (List.replicate p2 0) (by unfold maxLen; omega) (HKP.out X hX) (.inr (.inl (by omega)))).mono ?_
            rintro e X' ⟨h1, h2⟩
            have h3 : ST X' := by rw [hST]; exact ⟨lay, hs.below h2⟩
            exact ⟨h1, hcl.out _ h3, h3⟩
          have C2 : Hid (∀ X, ST X → Calls Try.prog 22 #[.pointer (some ⟨d, 0, none⟩), .slice none 0 0] X fun e X' => e = .returned (.int .i64 2) ∧ (X'.cell? ⟨k, 0, none⟩ = some (.pointer (some ⟨d, 0, none⟩)) ∧ X'.cell? ⟨k, 1, none⟩ = some (.int .i64 (size : Int))) ∧ ST X') := fun X hs => by
            rw [hST] at hs
            obtain ⟨lay, hs⟩ := hs
            refine (crashdisk_bad hs.disk hn0 none 0 0 [] (by unfold maxLen; omega) Reads.none_ (.inl (by omega))).mono ?_
            rintro e X' ⟨h1, h2⟩
            have h3 : ST X' := by rw [hST]; exact ⟨lay, hs.below h2⟩
            exact ⟨h1, hcl.out _ h3, h3⟩
          have C3 : Hid (∀ X, ST X → Calls Try.prog 22 #[.pointer (some ⟨d, 0, none⟩), .slice (some ⟨X.heap.size, 0, none⟩) 1 1] (X.alloc (.cells #[.int .i64 (IntKind.i64.wrap (-1 - (f : Int)))] 3)) fun e X' => e = .returned (.int .i64 2) ∧ (X'.cell? ⟨k, 0, none⟩ = some (.pointer (some ⟨d, 0, none⟩)) ∧ X'.cell? ⟨k, 1, none⟩ = some (.int .i64 (size : Int))) ∧ ST X') := fun X hs => by
            rw [hST] at hs
            obtain ⟨lay, hs⟩ := hs
            rw [show IntKind.i64.wrap (-1 - (f : Int)) = -1 - (f : Int) by rw [IntKind.wrap_i64]; omega]
            have hs1 := hs.alloc (.cells #[.int .i64 (-1 - (f : Int))] 3)
            refine (crashdisk_bad hs1.disk hn0 _ 1 1 [-1 - (f : Int)] (by unfold maxLen; omega) ((nums_new X (0, 0) [-1 - (f : Int)] 1 _ rfl rfl).more (by simp)) (.inr (.inr ⟨_, .head _, by omega⟩))).mono ?_
            rintro e X' ⟨h1, h2⟩
            have h3 : ST X' := by rw [hST]; exact ⟨lay, hs1.below h2⟩
            exact ⟨h1, hcl.out _ h3, h3⟩
          have C4 : Hid (∀ X, ST X → Calls Try.prog 18 #[.pointer (some ⟨d, 0, none⟩), .int .i64 0, .slice (some ⟨X.heap.size, 0, none⟩) p3 p3] (X.alloc (.cells (Array.replicate p3 (Value.int .u8 0)) 5)) fun e X' => e = .returned (.int .i64 4) ∧ (X'.cell? ⟨k, 0, none⟩ = some (.pointer (some ⟨d, 0, none⟩)) ∧ X'.cell? ⟨k, 1, none⟩ = some (.int .i64 (size : Int))) ∧ ST X') := fun X hs => by
            rw [hST] at hs
            rw [← List.toArray_replicate]
            obtain ⟨lay, hs⟩ := hs
            have hs1 := hs.alloc (.cells (List.replicate p3 (Value.int .u8 0)).toArray 5)
            have hv : Holds (X.alloc (.cells (List.replicate p3 (Value.int .u8 0)).toArray 5)) (.slice (some ⟨X.heap.size, 0, none⟩) p3 p3) (List.replicate p3 0) := by
              have := reads_news X 5 (List.replicate p3 (Value.int .u8 0)).toArray (0, 0) p3 (by simp)
              rw [zeros_u8s] at this
              exact ⟨_, p3, p3, rfl, by simp, Nat.le_refl _, by have := HP3.out; unfold maxLen; omega, this.more (by simp)⟩
            have hno : ¬ ((D 0).bytes.length + (List.replicate p3 (0 : BitVec 8)).length ≤ (D 0).size) := by
              have := HP3.out
              have := HD0.out.2
              rw [List.length_replicate]; omega
            refine (sep_dappend hs1 hn0 0 hn0 hv).mono ?_
            rintro e X' ⟨h1, lay', h2⟩
            unfold appE at h1
            unfold appD at h2
            rw [if_neg hno] at h1 h2
            have h3 : ST X' := by rw [hST]; exact ⟨lay', h2⟩
            exact ⟨h1, hcl.out _ h3, h3⟩
          have C5 : Hid (∀ X, ST X → Calls Try.prog 13 #[.pointer (some ⟨k, 0, none⟩), .pointer (some ⟨d, 0, none⟩)] X fun e X' => e = .returned (.bool true) ∧ (X'.cell? ⟨k, 0, none⟩ = some (.pointer (some ⟨d, 0, none⟩)) ∧ X'.cell? ⟨k, 1, none⟩ = some (.int .i64 (size : Int))) ∧ ST X') := fun X hs => by
            rw [hST] at hs
            obtain ⟨lay, hs⟩ := hs
            refine (agrees_any hs.disk hs.known hn0 hn8).mono ?_
            rintro e X' ⟨h1, h2⟩
            have h3 : ST X' := by rw [hST]; exact ⟨lay, hs.below h2⟩
            exact ⟨h1, hcl.out _ h3, h3⟩
          have C6 : Hid (∀ X, ST X → Calls Try.prog 10 #[] X fun e X' => e = .returned (.bool true) ∧ (X'.cell? ⟨k, 0, none⟩ = some (.pointer (some ⟨d, 0, none⟩)) ∧ X'.cell? ⟨k, 1, none⟩ = some (.int .i64 (size : Int))) ∧ ST X') := fun X hs => by
            rw [hST] at hs
            obtain ⟨lay, hs⟩ := hs
            refine (works_any X).mono ?_
            rintro e X' ⟨h1, h2⟩
            have h3 : ST X' := by rw [hST]; exact ⟨lay, hs.below h2⟩
            exact ⟨h1, hcl.out _ h3, h3⟩
          have HSTE := Lib.hid hST
          have hb2 : Below W2.heap.size W2 W2.drew := (Below.refl _ _).drew
          obtain ⟨k0, k1⟩ := HK.out _ HB11.out
          clear hST hW2 hkp HKP hcl
          go_wp2_with fail
          go_region_held3 (fun X' => X'.cell? ⟨k, 0, none⟩ = some (.pointer (some ⟨d, 0, none⟩)) ∧ X'.cell? ⟨k, 1, none⟩ = some (.int .i64 (size : Int))) (first | (constructor <;> assumption) | go_keep)
            (first
              | (go_at_call 22; first
                  | (with_reducible refine (C1.out _ (by assumption) (by assumption)).mono ?_; rintro e x11 ⟨rfl, ⟨k11, z11⟩, st1⟩)
                  | (with_reducible refine (C2.out _ (by assumption)).mono ?_; rintro e x12 ⟨rfl, ⟨k12, z12⟩, st2⟩)
                  | (with_reducible refine (C3.out _ (by assumption)).mono ?_; rintro e x13 ⟨rfl, ⟨k13, z13⟩, st3⟩))
              | (go_at_call 18; first | (with_reducible refine (C4.out _ (by assumption)).mono ?_; rintro e x14 ⟨rfl, ⟨k14, z14⟩, st4⟩))
              | (go_at_call 13; refine (C5.out _ (by assumption)).mono ?_; rintro e x15 ⟨rfl, ⟨k15, z15⟩, st5⟩)
              | (go_at_call 10; refine (C6.out _ (by assumption)).mono ?_; rintro e x16 ⟨rfl, ⟨k16, z16⟩, st6⟩))
          all_goals
            rw [HSTE.out] at st6
            obtain ⟨lay6, hs6⟩ := st6
            have HF := Lib.hid hs6.bel
            clear hs6
            go_wp2_with fail
            go_ret
            exact ⟨by simp, HF.out⟩
theorem DiskRefuses_walk (v0 v1 v2 v3 : Value) (w : World) (h0 : ArgIn Try.prog w 5 v0) (h1 : ArgIn Try.prog w 5 v1) (h2 : ArgIn Try.prog w 22 v2) (h3 : ArgIn Try.prog w 41 v3) :
    Calls Try.prog 5 #[v0, v1, v2, v3] w fun e w' => e = .returned (.bool true) ∧ Below w.heap.size w w' := by
  obtain ⟨m0, rfl, e0⟩ := h0.int (k := .u8) Try.underlying5
  obtain ⟨m1, rfl, e1⟩ := h1.int (k := .u8) Try.underlying5
  obtain ⟨m3, rfl, e3⟩ := h3.int (k := .u16) Try.underlying41
  obtain ⟨b0, rfl⟩ := u8_of_wf e0
  obtain ⟨b1, rfl⟩ := u8_of_wf e1
  obtain ⟨hf0, hf⟩ := u16_of_wf e3
  obtain ⟨f, rfl⟩ := Int.eq_ofNat_of_zero_le hf0
  obtain ⟨A, n, c, ts, rfl, k1, k2, k3⟩ := turns_arg h2
  exact DiskRefuses_w b0 b1 A n c ts f w (by omega) k3 k1 k2
end Go.Proofs.Ytelobbigpgfobaa

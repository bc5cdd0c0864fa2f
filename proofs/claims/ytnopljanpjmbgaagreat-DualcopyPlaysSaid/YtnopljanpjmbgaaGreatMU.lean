/-
  The document's copied and Read; The document's Write, Begin and Advance; The document's Advance.
-/
import Derived.Test.YtnopljanpjmbgaaGreatMP
import Derived.Test.YtnopljanpjmbgaaGreatMT
import Derived.Test.YtnopljanpjmbgaaGreatMM
import Derived.Deep.RegionHeld3
import Derived.Deep.RegionLaw
namespace Go.Proofs.YtnopljanpjmbgaaGreat
open Go.RowKit Drum
set_option linter.unusedVariables false
theorem Sep.addRow {B : Nat} {w0 w w' : World} {os : List Ob} (h : Sep B w0 w os) (hb : Below w.heap.size w w') {e : TypeId} {A : Option Addr} {k c : Nat} {l : List Value} (ho : w'.ownsRow w.heap.size e 1 (.slice A k c) k l) : Sep B w0 w' (rowOb e 1 (.slice A k c) k l :: os) := by
  refine h.add (a := rowOb e 1 (.slice A k c) k l) hb (own_base ho (fun _ _ => Nat.zero_le _)) (fun j hj => ?_)
  rcases ho.2 with ⟨e1, _⟩ | ⟨g, cap, cur, e1, hg, _⟩
  · injection e1 with e2 _ _
    subst e2
    cases hj
  · injection e1 with e2 _ _
    subst e2
    have : g = j := by simpa [rowOb, Value.ownBlock] using hj
    omega
section
variable {w w' : World} {r : Nat} {R : RLay} {X : DevD}
theorem rcp_len (h : IsRD w r R X) (hup : X.down = false) (i : Nat) (hi : i < 2) (z : Int) (hz : z = ((X.n + i : Nat) : Int)) :
    Calls Tryz.prog 61 #[.pointer (some ⟨r, 0, none⟩), .int .i64 z] w fun e w' => e = .returned (.tuple #[.int .i64 ((cpL X i).length : Int), .int .i64 0]) ∧ Below w.heap.size w w' := by
  subst hz
  have := rd_len h ((X.n + i : Nat) : Int)
  unfold lenV at this
  rw [cp_chk hup i hi, if_pos rfl, Int.toNat_natCast] at this
  exact this
theorem rcp_read (h : IsRD w r R X) (hup : X.down = false) (i : Nat) (hi : i < 2) (z : Int) (hz : z = ((X.n + i : Nat) : Int)) :
    Calls Tryz.prog 82 #[.pointer (some ⟨r, 0, none⟩), .int .i64 z, .int .i64 0, .int .i64 ((cpL X i).length : Int)] w fun e w' => ∃ A c, e = .returned (.tuple #[.slice A (cpL X i).length c, .int .i64 0]) ∧ (cpL X i).length ≤ c ∧ c ≤ maxLen ∧ Reads w' w'.heap.size 1 A (cpL X i).length (u8s (cpL X i)) ∧ Below w.heap.size w w' := by
  subst hz
  refine (rd_read h ((X.n + i : Nat) : Int) 0 ((cpL X i).length : Int)).mono ?_
  rintro e w' ⟨u, re, rfl, hq, hb⟩
  obtain ⟨rfl, ho⟩ := read_ok (s := X.n + i) (a := 0) (b := (cpL X i).length) hq (cp_chk hup i hi) (by unfold cpL; omega)
  have e1 : ((X.D (X.n + i)).bytes.drop 0).take (cpL X i).length = cpL X i := by unfold cpL; rw [List.drop_zero, List.take_length]
  rw [e1] at ho
  obtain ⟨A, c, rfl, h1, h2, h3⟩ := own_slice ho
  exact ⟨A, c, rfl, h1, h2, h3, hb⟩
set_option maxRecDepth 100000 in
set_option maxHeartbeats 4000000 in
theorem rcopied (h : IsRD w r R X) (hup : X.down = false) (i : Nat) (hi : i < 2) (er : Int) (b : Bk) (hcp : cpD X i = (er, b)) :
    Calls Tryz.prog 106 #[.pointer (some ⟨r, 0, none⟩), .int .i64 (i : Int)] w fun e w' => e = .returned (.tuple #[.agg #[.int .i64 b.epoch, .int .i64 b.conf.slots, .int .i64 b.conf.size, .int .i64 b.conf.reserve, .int .i64 b.conf.work, .int .i64 b.conf.key, .int .i64 b.conf.value, .int .i64 b.conf.policy], .bool (er == 0)]) ∧ Below w.heap.size w w' := by
  obtain ⟨b4, hb4⟩ : ∃ b4, b4 = w.heap.size := ⟨_, rfl⟩
  obtain ⟨W1, hW1⟩ : ∃ W1 : World, W1 = w.alloc (.cells #[.int .i64 0, .int .i64 0, .int .i64 0, .int .i64 0, .int .i64 0, .int .i64 0, .int .i64 0, .int .i64 0] 57) := ⟨_, rfl⟩
  have HS1 : Hid (Sep w.heap.size w W1 [blkOb b4 57 (bkv bk0)]) := by
    show Sep _ _ _ _
    rw [hW1]
    exact (Sep.start w).newBlk b4 _ _ hb4
  have hd := h.below HS1.out.bel
  have HH := Lib.hid h
  have hn32 := h.ok.n32
  have HSL := Lib.hid (rd_slots hd)
  have HLN := Lib.hid (rcp_len hd hup i hi ((X.n : Int) + (i : Int)) (by omega))
  have HRD : Hid (∀ W, IsRD W r R X → _) := fun W hW => rcp_read (w := W) hW hup i hi ((X.n : Int) + (i : Int)) (by omega)
  obtain ⟨m, hm⟩ : ∃ m, (cpL X i).length = m := ⟨_, rfl⟩
  rw [hm] at HLN HRD
  have HM := Lib.hid hm
  have HCP := Lib.hid hcp
  have hn0 : (0 : Int) ≤ (X.n : Int) := by omega
  clear hd hm hcp h
  go_enter Tryz.func106, Tryz.ntmps106
  go_wp2_with fail
  rw [← hb4, ← hW1]
  clear hW1 hb4
  refine HSL.out.mono ?_
  rintro e w1 ⟨rfl, rfl⟩
  go_wp2_with fail
  refine HLN.out.mono ?_
  rintro e w2 ⟨rfl, hb⟩
  have HS2 := Lib.hid (HS1.out.below hb)
  have HSL2 := Lib.hid (rd_slots (HH.out.below HS2.out.bel))
  have HRD2 := Lib.hid (HRD.out _ (HH.out.below HS2.out.bel))
  clear hb HSL HLN HS1 HRD
  go_wp2_with fail
  refine HSL2.out.mono ?_
  rintro e w1 ⟨rfl, rfl⟩
  go_wp2_with fail
  refine HRD2.out.mono ?_
  rintro e w3 ⟨A, c, rfl, hmc, hcm, hr, hb⟩
  have HS3 := Lib.hid (HS2.out.below hb)
  have HDE : Hid (Calls Tryz.prog 138 #[.slice A m c] w3 fun e w' => e = .returned (.tuple #[.agg #[.int .i64 b.epoch, .int .i64 b.conf.slots, .int .i64 b.conf.size, .int .i64 b.conf.reserve, .int .i64 b.conf.work, .int .i64 b.conf.key, .int .i64 b.conf.value, .int .i64 b.conf.policy], .int .i64 er]) ∧ Below w3.heap.size w3 w') := by
    have := refDecode_any A m c w3.heap.size (cpL X i) HM.out.symm (by omega) hmc hcm w3 hr (Nat.le_refl _)
    have e1 : decOf (cpL X i) = (er, b) := HCP.out
    rw [e1] at this
    exact this
  clear hb hr HRD2 hmc hcm HSL2 HS2
  go_wp2_with fail
  refine HDE.out.mono ?_
  rintro e w4 ⟨rfl, hb⟩
  obtain ⟨b10, hb10⟩ : ∃ b10, b10 = w4.heap.size := ⟨_, rfl⟩
  obtain ⟨W5, hW5⟩ : ∃ W5 : World, W5 = w4.alloc (.cells #[.int .i64 b.epoch, .int .i64 b.conf.slots, .int .i64 b.conf.size, .int .i64 b.conf.reserve, .int .i64 b.conf.work, .int .i64 b.conf.key, .int .i64 b.conf.value, .int .i64 b.conf.policy] 57) := ⟨_, rfl⟩
  have HS5 : Hid (Sep w.heap.size w W5 [blkOb b10 57 (bkv b), blkOb b4 57 (bkv bk0)]) := by
    show Sep _ _ _ _
    rw [hW5]
    exact (HS3.out.below hb).newBlk b10 _ _ hb10
  have HS6 : Hid (Sep w.heap.size w W5 [blkOb b4 57 (bkv bk0)]) := HS5.out.sub (.cons _ (List.Sublist.refl _))
  clear hb HDE
  go_upto_region 4 with fail
  rw [← hb10, ← hW5]
  clear hb10 hW5
  go_wp2_with (first
    | (refine wpList_load_row rfl 57 _ rfl b10 rfl 57 (bkv b) (0, 0) _ (show Blk _ b10 57 (bkv b) from HS5.out.get (.head _)) Tryz.underlying57 rfl rbk_size ?_)
    | (refine wpList_store_row rfl 57 _ _ rfl b4 (bkv b) rfl rfl 57 (bkv bk0) (show Blk _ b4 57 (bkv bk0) from HS6.out.get (.head _)) rbk_size rfl (bkv_one _) ?_))
  have hz := HS6.out.setRowBlk (bkv b)
  refine bodyPost_ret (results_blk_tmp rfl _ _ b4 57 (bkv b) _ rfl (show Blk _ b4 57 (bkv b) from hz.get (.head _)) Tryz.underlying57 rfl rbk_size) rfl ?_
  exact ⟨rfl, hz.bel⟩
theorem read_pair {e0 e1 : Int} {b0 b1 : Bk} (hup : X.down = false) (h0 : cpD X 0 = (e0, b0)) (h1 : cpD X 1 = (e1, b1)) :
    readX X = if e0 = 0 ∧ (e1 ≠ 0 ∨ b1.epoch ≤ b0.epoch) then (0, 0, b0) else if e1 = 0 then (0, 1, b1) else (5, 0, bk0) := by
  have k0 : e0 = 0 → 1 ≤ b0.epoch := fun e => by
    have := cpD_ok (X := X) (i := 0) (by rw [h0]; exact e)
    rw [h0] at this
    exact this.1.1
  have k1 : e1 = 0 → 1 ≤ b1.epoch := fun e => by
    have := cpD_ok (X := X) (i := 1) (by rw [h1]; exact e)
    rw [h1] at this
    exact this.1.1
  have z0 : bk0.epoch = 0 := rfl
  have hv : validTo X 2 = (if e0 = 0 then [((0 : Nat), b0)] else []) ++ (if e1 = 0 then [((1 : Nat), b1)] else []) := by
    show (if (cpD X 1).1 = 0 then (if (cpD X 0).1 = 0 then [] ++ [((0 : Nat), (cpD X 0).2)] else []) ++ [((1 : Nat), (cpD X 1).2)] else (if (cpD X 0).1 = 0 then [] ++ [((0 : Nat), (cpD X 0).2)] else [])) = _
    rw [h0, h1]
    by_cases a : e0 = 0 <;> by_cases b : e1 = 0 <;> simp [a, b]
  unfold readX
  rw [if_neg (by simp [hup]), hv]
  by_cases a : e0 = 0
  · have q0 := k0 a
    by_cases b : e1 = 0
    · have q1 := k1 b
      by_cases c : b1.epoch ≤ b0.epoch
      · simp [newestOf, a, b, c, z0, show (0 : Int) < b0.epoch by omega, show ¬ b0.epoch < b1.epoch by omega, show ¬ b0.epoch = 0 by omega]
      · simp [newestOf, a, b, c, z0, show (0 : Int) < b0.epoch by omega, show b0.epoch < b1.epoch by omega, show ¬ b1.epoch = 0 by omega]
    · simp [newestOf, a, b, z0, show (0 : Int) < b0.epoch by omega, show ¬ b0.epoch = 0 by omega]
  · by_cases b : e1 = 0
    · have q1 := k1 b
      simp [newestOf, a, b, z0, show (0 : Int) < b1.epoch by omega, show ¬ b1.epoch = 0 by omega]
    · simp [newestOf, a, b, z0]
set_option maxRecDepth 100000 in
set_option maxHeartbeats 8000000 in
theorem rread_dual (h : IsRD w r R X) :
    Calls Tryz.prog 62 #[.pointer (some ⟨r, 0, none⟩)] w fun e w' => e = .returned (.tuple #[.agg (bkv (readX X).2.2), .int .i64 ((readX X).2.1 : Int), .int .i64 (readX X).1]) ∧ Below w.heap.size w w' := by
  obtain ⟨b2, hb2⟩ : ∃ b2, b2 = w.heap.size := ⟨_, rfl⟩
  obtain ⟨W1, hW1⟩ : ∃ W1 : World, W1 = w.alloc (.cells #[.int .i64 0, .int .i64 0, .int .i64 0, .int .i64 0, .int .i64 0, .int .i64 0, .int .i64 0, .int .i64 0] 57) := ⟨_, rfl⟩
  have HS1 : Hid (Sep w.heap.size w W1 [blkOb b2 57 (bkv bk0)]) := by
    show Sep _ _ _ _
    rw [hW1]
    exact (Sep.start w).newBlk b2 _ _ hb2
  have hd := h.below HS1.out.bel
  have HH := Lib.hid h
  have HSL := Lib.hid (rd_slots hd)
  have HDN := Lib.hid (rd_down hd)
  have hn2 := h.ok.n2
  have hz : ((X.n : Int) == 0) = false := by simp; omega
  clear hd h hn2
  cases hup : X.down with
  | true =>
    have HX : Hid (readX X = (13, 0, bk0)) := if_pos hup
    rw [hup] at HDN
    clear hup
    go_enter Tryz.func62, Tryz.ntmps62
    go_wp2_with fail
    rw [← hb2, ← hW1]
    clear hW1 hb2
    refine HSL.out.mono ?_
    rintro e w1 ⟨rfl, rfl⟩
    go_wp2_with fail
    refine HDN.out.mono ?_
    rintro e w1 ⟨rfl, rfl⟩
    go_wp2_with (refine wpList_store_row rfl 57 _ _ rfl b2 (bkv bk0) rfl rfl 57 (bkv bk0) (show Blk _ b2 57 (bkv bk0) from HS1.out.get (.head _)) rbk_size rfl (bkv_one _) ?_)
    have hz := HS1.out.setRowBlk (bkv bk0)
    refine bodyPost_ret (results_blk_tmp2 rfl _ _ b2 57 (bkv bk0) _ rfl (show Blk _ b2 57 (bkv bk0) from hz.get (.head _)) Tryz.underlying57 rfl rbk_size) rfl ?_
    rw [HX.out]
    exact ⟨rfl, hz.bel⟩
  | false =>
    rw [hup] at HDN
    obtain ⟨e0, b0, h0⟩ : ∃ e0 b0, cpD X 0 = (e0, b0) := ⟨_, _, rfl⟩
    obtain ⟨e1, b1, h1⟩ : ∃ e1 b1, cpD X 1 = (e1, b1) := ⟨_, _, rfl⟩
    by_cases a0 : e0 = 0
    · by_cases a1 : e1 = 0
      · by_cases a2 : b1.epoch ≤ b0.epoch
        · as_aux_lemma =>
            have HC0 : Hid (∀ W, IsRD W r R X → Calls Tryz.prog 106 #[.pointer (some ⟨r, 0, none⟩), .int .i64 0] W fun e w' => e = .returned (.tuple #[.agg #[.int .i64 b0.epoch, .int .i64 b0.conf.slots, .int .i64 b0.conf.size, .int .i64 b0.conf.reserve, .int .i64 b0.conf.work, .int .i64 b0.conf.key, .int .i64 b0.conf.value, .int .i64 b0.conf.policy], .bool true]) ∧ Below W.heap.size W w') := fun W hW => by
              have := rcopied hW hup 0 (by omega) e0 b0 h0
              rw [show (e0 == 0) = true by simpa using a0] at this
              exact this
            have HC1 : Hid (∀ W, IsRD W r R X → Calls Tryz.prog 106 #[.pointer (some ⟨r, 0, none⟩), .int .i64 1] W fun e w' => e = .returned (.tuple #[.agg #[.int .i64 b1.epoch, .int .i64 b1.conf.slots, .int .i64 b1.conf.size, .int .i64 b1.conf.reserve, .int .i64 b1.conf.work, .int .i64 b1.conf.key, .int .i64 b1.conf.value, .int .i64 b1.conf.policy], .bool true]) ∧ Below W.heap.size W w') := fun W hW => by
              have := rcopied hW hup 1 (by omega) e1 b1 h1
              rw [show (e1 == 0) = true by simpa using a1] at this
              exact this
            have hdec : decide (b1.epoch ≤ b0.epoch) = true := by simpa using a2
            have HX : Hid (readX X = (0, 0, b0)) := by show _ = _; rw [read_pair hup h0 h1]; simp [a0, a1, a2]
            clear h0 h1 a0 a1 a2
            go_enter Tryz.func62, Tryz.ntmps62
            go_wp2_with fail
            rw [← hb2, ← hW1]
            clear hW1 hb2
            refine HSL.out.mono ?_
            rintro e w1 ⟨rfl, rfl⟩
            go_wp2_with fail
            refine HDN.out.mono ?_
            rintro e w1 ⟨rfl, rfl⟩
            go_wp2_with fail
            refine (HC0.out _ (HH.out.below HS1.out.bel)).mono ?_
            rintro e w2 ⟨rfl, hb⟩
            obtain ⟨b5, hb5⟩ : ∃ b5, b5 = w2.heap.size := ⟨_, rfl⟩
            obtain ⟨W3, hW3⟩ : ∃ W3 : World, W3 = w2.alloc (.cells #[.int .i64 b0.epoch, .int .i64 b0.conf.slots, .int .i64 b0.conf.size, .int .i64 b0.conf.reserve, .int .i64 b0.conf.work, .int .i64 b0.conf.key, .int .i64 b0.conf.value, .int .i64 b0.conf.policy] 57) := ⟨_, rfl⟩
            have HS3 : Hid (Sep w.heap.size w W3 [blkOb b5 57 (bkv b0), blkOb b2 57 (bkv bk0)]) := by
              show Sep _ _ _ _
              rw [hW3]
              exact (HS1.out.below hb).newBlk b5 _ _ hb5
            clear hb HC0
            go_upto_region 6 with fail
            rw [← hb5, ← hW3]
            clear hb5 hW3
            go_wp2_with fail
            refine (HC1.out _ (HH.out.below HS3.out.bel)).mono ?_
            rintro e w4 ⟨rfl, hb⟩
            obtain ⟨b7, hb7⟩ : ∃ b7, b7 = w4.heap.size := ⟨_, rfl⟩
            obtain ⟨W5, hW5⟩ : ∃ W5 : World, W5 = w4.alloc (.cells #[.int .i64 b1.epoch, .int .i64 b1.conf.slots, .int .i64 b1.conf.size, .int .i64 b1.conf.reserve, .int .i64 b1.conf.work, .int .i64 b1.conf.key, .int .i64 b1.conf.value, .int .i64 b1.conf.policy] 57) := ⟨_, rfl⟩
            have HS5 : Hid (Sep w.heap.size w W5 [blkOb b2 57 (bkv bk0), blkOb b7 57 (bkv b1), blkOb b5 57 (bkv b0)]) := by
              show Sep _ _ _ _
              rw [hW5]
              exact ((HS3.out.below hb).newBlk b7 _ _ hb7).perm (List.perm_middle (l₁ := [_, _]))
            clear hb HC1
            go_upto_region 7 with fail
            rw [← hb7, ← hW5]
            clear hb7 hW5
            have hk7 : Blk W5 b7 57 (bkv b1) := HS5.out.get (.tail _ (.head _))
            have hk5 : Blk W5 b5 57 (bkv b0) := HS5.out.get (.tail _ (.tail _ (.head _)))
            have q5 : W5.cell? ⟨b5, 0, none⟩ = some (.int .i64 b0.epoch) := hk5.cell 0
            have q7 : W5.cell? ⟨b7, 0, none⟩ = some (.int .i64 b1.epoch) := hk7.cell 0
            have HK5 := Lib.hid hk5
            have HK7 := Lib.hid hk7
            clear hk5 hk7
            go_wp2_with (first
              | (refine wpList_load_row rfl 57 _ rfl b5 rfl 57 (bkv b0) (0, 0) _ HK5.out Tryz.underlying57 rfl rbk_size ?_)
              | (refine wpList_store_row rfl 57 _ _ rfl b2 (bkv b0) rfl rfl 57 (bkv bk0) (show Blk _ b2 57 (bkv bk0) from HS5.out.get (.head _)) rbk_size rfl (bkv_one _) ?_))
            have hz := HS5.out.setRowBlk (bkv b0)
            refine bodyPost_ret (results_blk_tmp2 rfl _ _ b2 57 (bkv b0) _ rfl (show Blk _ b2 57 (bkv b0) from hz.get (.head _)) Tryz.underlying57 rfl rbk_size) rfl ?_
            rw [HX.out]
            exact ⟨rfl, hz.bel⟩
        · as_aux_lemma =>
            have HC0 : Hid (∀ W, IsRD W r R X → Calls Tryz.prog 106 #[.pointer (some ⟨r, 0, none⟩), .int .i64 0] W fun e w' => e = .returned (.tuple #[.agg #[.int .i64 b0.epoch, .int .i64 b0.conf.slots, .int .i64 b0.conf.size, .int .i64 b0.conf.reserve, .int .i64 b0.conf.work, .int .i64 b0.conf.key, .int .i64 b0.conf.value, .int .i64 b0.conf.policy], .bool true]) ∧ Below W.heap.size W w') := fun W hW => by
              have := rcopied hW hup 0 (by omega) e0 b0 h0
              rw [show (e0 == 0) = true by simpa using a0] at this
              exact this
            have HC1 : Hid (∀ W, IsRD W r R X → Calls Tryz.prog 106 #[.pointer (some ⟨r, 0, none⟩), .int .i64 1] W fun e w' => e = .returned (.tuple #[.agg #[.int .i64 b1.epoch, .int .i64 b1.conf.slots, .int .i64 b1.conf.size, .int .i64 b1.conf.reserve, .int .i64 b1.conf.work, .int .i64 b1.conf.key, .int .i64 b1.conf.value, .int .i64 b1.conf.policy], .bool true]) ∧ Below W.heap.size W w') := fun W hW => by
              have := rcopied hW hup 1 (by omega) e1 b1 h1
              rw [show (e1 == 0) = true by simpa using a1] at this
              exact this
            have hdec : decide (b1.epoch ≤ b0.epoch) = false := by simpa using a2
            have HX : Hid (readX X = (0, 1, b1)) := by show _ = _; rw [read_pair hup h0 h1]; simp [a0, a1, a2]
            clear h0 h1 a0 a1 a2
            go_enter Tryz.func62, Tryz.ntmps62
            go_wp2_with fail
            rw [← hb2, ← hW1]
            clear hW1 hb2
            refine HSL.out.mono ?_
            rintro e w1 ⟨rfl, rfl⟩
            go_wp2_with fail
            refine HDN.out.mono ?_
            rintro e w1 ⟨rfl, rfl⟩
            go_wp2_with fail
            refine (HC0.out _ (HH.out.below HS1.out.bel)).mono ?_
            rintro e w2 ⟨rfl, hb⟩
            obtain ⟨b5, hb5⟩ : ∃ b5, b5 = w2.heap.size := ⟨_, rfl⟩
            obtain ⟨W3, hW3⟩ : ∃ W3 : World, W3 = w2.alloc (.cells #[.int .i64 b0.epoch, .int .i64 b0.conf.slots, .int .i64 b0.conf.size, .int .i64 b0.conf.reserve, .int .i64 b0.conf.work, .int .i64 b0.conf.key, .int .i64 b0.conf.value, .int .i64 b0.conf.policy] 57) := ⟨_, rfl⟩
            have HS3 : Hid (Sep w.heap.size w W3 [blkOb b5 57 (bkv b0), blkOb b2 57 (bkv bk0)]) := by
              show Sep _ _ _ _
              rw [hW3]
              exact (HS1.out.below hb).newBlk b5 _ _ hb5
            clear hb HC0
            go_upto_region 6 with fail
            rw [← hb5, ← hW3]
            clear hb5 hW3
            go_wp2_with fail
            refine (HC1.out _ (HH.out.below HS3.out.bel)).mono ?_
            rintro e w4 ⟨rfl, hb⟩
            obtain ⟨b7, hb7⟩ : ∃ b7, b7 = w4.heap.size := ⟨_, rfl⟩
            obtain ⟨W5, hW5⟩ : ∃ W5 : World, W5 = w4.alloc (.cells #[.int .i64 b1.epoch, .int .i64 b1.conf.slots, .int .i64 b1.conf.size, .int .i64 b1.conf.reserve, .int .i64 b1.conf.work, .int .i64 b1.conf.key, .int .i64 b1.conf.value, .int .i64 b1.conf.policy] 57) := ⟨_, rfl⟩
            have HS5 : Hid (Sep w.heap.size w W5 [blkOb b2 57 (bkv bk0), blkOb b7 57 (bkv b1), blkOb b5 57 (bkv b0)]) := by
              show Sep _ _ _ _
              rw [hW5]
              exact ((HS3.out.below hb).newBlk b7 _ _ hb7).perm (List.perm_middle (l₁ := [_, _]))
            clear hb HC1
            go_upto_region 7 with fail
            rw [← hb7, ← hW5]
            clear hb7 hW5
            have hk7 : Blk W5 b7 57 (bkv b1) := HS5.out.get (.tail _ (.head _))
            have hk5 : Blk W5 b5 57 (bkv b0) := HS5.out.get (.tail _ (.tail _ (.head _)))
            have q5 : W5.cell? ⟨b5, 0, none⟩ = some (.int .i64 b0.epoch) := hk5.cell 0
            have q7 : W5.cell? ⟨b7, 0, none⟩ = some (.int .i64 b1.epoch) := hk7.cell 0
            have HK5 := Lib.hid hk5
            have HK7 := Lib.hid hk7
            clear hk5 hk7
            go_wp2_with (first
              | (refine wpList_load_row rfl 57 _ rfl b7 rfl 57 (bkv b1) (0, 0) _ HK7.out Tryz.underlying57 rfl rbk_size ?_)
              | (refine wpList_store_row rfl 57 _ _ rfl b2 (bkv b1) rfl rfl 57 (bkv bk0) (show Blk _ b2 57 (bkv bk0) from HS5.out.get (.head _)) rbk_size rfl (bkv_one _) ?_))
            have hz := HS5.out.setRowBlk (bkv b1)
            refine bodyPost_ret (results_blk_tmp2 rfl _ _ b2 57 (bkv b1) _ rfl (show Blk _ b2 57 (bkv b1) from hz.get (.head _)) Tryz.underlying57 rfl rbk_size) rfl ?_
            rw [HX.out]
            exact ⟨rfl, hz.bel⟩
      · as_aux_lemma =>
          have HC0 : Hid (∀ W, IsRD W r R X → Calls Tryz.prog 106 #[.pointer (some ⟨r, 0, none⟩), .int .i64 0] W fun e w' => e = .returned (.tuple #[.agg #[.int .i64 b0.epoch, .int .i64 b0.conf.slots, .int .i64 b0.conf.size, .int .i64 b0.conf.reserve, .int .i64 b0.conf.work, .int .i64 b0.conf.key, .int .i64 b0.conf.value, .int .i64 b0.conf.policy], .bool true]) ∧ Below W.heap.size W w') := fun W hW => by
            have := rcopied hW hup 0 (by omega) e0 b0 h0
            rw [show (e0 == 0) = true by simpa using a0] at this
            exact this
          have HC1 : Hid (∀ W, IsRD W r R X → Calls Tryz.prog 106 #[.pointer (some ⟨r, 0, none⟩), .int .i64 1] W fun e w' => e = .returned (.tuple #[.agg #[.int .i64 b1.epoch, .int .i64 b1.conf.slots, .int .i64 b1.conf.size, .int .i64 b1.conf.reserve, .int .i64 b1.conf.work, .int .i64 b1.conf.key, .int .i64 b1.conf.value, .int .i64 b1.conf.policy], .bool false]) ∧ Below W.heap.size W w') := fun W hW => by
            have := rcopied hW hup 1 (by omega) e1 b1 h1
            rw [show (e1 == 0) = false by simpa using a1] at this
            exact this
          have HX : Hid (readX X = (0, 0, b0)) := by show _ = _; rw [read_pair hup h0 h1]; simp [a0, a1]
          clear h0 h1 a0 a1 
          go_enter Tryz.func62, Tryz.ntmps62
          go_wp2_with fail
          rw [← hb2, ← hW1]
          clear hW1 hb2
          refine HSL.out.mono ?_
          rintro e w1 ⟨rfl, rfl⟩
          go_wp2_with fail
          refine HDN.out.mono ?_
          rintro e w1 ⟨rfl, rfl⟩
          go_wp2_with fail
          refine (HC0.out _ (HH.out.below HS1.out.bel)).mono ?_
          rintro e w2 ⟨rfl, hb⟩
          obtain ⟨b5, hb5⟩ : ∃ b5, b5 = w2.heap.size := ⟨_, rfl⟩
          obtain ⟨W3, hW3⟩ : ∃ W3 : World, W3 = w2.alloc (.cells #[.int .i64 b0.epoch, .int .i64 b0.conf.slots, .int .i64 b0.conf.size, .int .i64 b0.conf.reserve, .int .i64 b0.conf.work, .int .i64 b0.conf.key, .int .i64 b0.conf.value, .int .i64 b0.conf.policy] 57) := ⟨_, rfl⟩
          have HS3 : Hid (Sep w.heap.size w W3 [blkOb b5 57 (bkv b0), blkOb b2 57 (bkv bk0)]) := by
            show Sep _ _ _ _
            rw [hW3]
            exact (HS1.out.below hb).newBlk b5 _ _ hb5
          clear hb HC0
          go_upto_region 6 with fail
          rw [← hb5, ← hW3]
          clear hb5 hW3
          go_wp2_with fail
          refine (HC1.out _ (HH.out.below HS3.out.bel)).mono ?_
          rintro e w4 ⟨rfl, hb⟩
          obtain ⟨b7, hb7⟩ : ∃ b7, b7 = w4.heap.size := ⟨_, rfl⟩
          obtain ⟨W5, hW5⟩ : ∃ W5 : World, W5 = w4.alloc (.cells #[.int .i64 b1.epoch, .int .i64 b1.conf.slots, .int .i64 b1.conf.size, .int .i64 b1.conf.reserve, .int .i64 b1.conf.work, .int .i64 b1.conf.key, .int .i64 b1.conf.value, .int .i64 b1.conf.policy] 57) := ⟨_, rfl⟩
          have HS5 : Hid (Sep w.heap.size w W5 [blkOb b2 57 (bkv bk0), blkOb b7 57 (bkv b1), blkOb b5 57 (bkv b0)]) := by
            show Sep _ _ _ _
            rw [hW5]
            exact ((HS3.out.below hb).newBlk b7 _ _ hb7).perm (List.perm_middle (l₁ := [_, _]))
          clear hb HC1
          go_upto_region 7 with fail
          rw [← hb7, ← hW5]
          clear hb7 hW5
          have hk7 : Blk W5 b7 57 (bkv b1) := HS5.out.get (.tail _ (.head _))
          have hk5 : Blk W5 b5 57 (bkv b0) := HS5.out.get (.tail _ (.tail _ (.head _)))
          have q5 : W5.cell? ⟨b5, 0, none⟩ = some (.int .i64 b0.epoch) := hk5.cell 0
          have q7 : W5.cell? ⟨b7, 0, none⟩ = some (.int .i64 b1.epoch) := hk7.cell 0
          have HK5 := Lib.hid hk5
          have HK7 := Lib.hid hk7
          clear hk5 hk7
          go_wp2_with (first
            | (refine wpList_load_row rfl 57 _ rfl b5 rfl 57 (bkv b0) (0, 0) _ HK5.out Tryz.underlying57 rfl rbk_size ?_)
            | (refine wpList_store_row rfl 57 _ _ rfl b2 (bkv b0) rfl rfl 57 (bkv bk0) (show Blk _ b2 57 (bkv bk0) from HS5.out.get (.head _)) rbk_size rfl (bkv_one _) ?_))
          have hz := HS5.out.setRowBlk (bkv b0)
          refine bodyPost_ret (results_blk_tmp2 rfl _ _ b2 57 (bkv b0) _ rfl (show Blk _ b2 57 (bkv b0) from hz.get (.head _)) Tryz.underlying57 rfl rbk_size) rfl ?_
          rw [HX.out]
          exact ⟨rfl, hz.bel⟩
    · by_cases a1 : e1 = 0
      · as_aux_lemma =>
          have HC0 : Hid (∀ W, IsRD W r R X → Calls Tryz.prog 106 #[.pointer (some ⟨r, 0, none⟩), .int .i64 0] W fun e w' => e = .returned (.tuple #[.agg #[.int .i64 b0.epoch, .int .i64 b0.conf.slots, .int .i64 b0.conf.size, .int .i64 b0.conf.reserve, .int .i64 b0.conf.work, .int .i64 b0.conf.key, .int .i64 b0.conf.value, .int .i64 b0.conf.policy], .bool false]) ∧ Below W.heap.size W w') := fun W hW => by
            have := rcopied hW hup 0 (by omega) e0 b0 h0
            rw [show (e0 == 0) = false by simpa using a0] at this
            exact this
          have HC1 : Hid (∀ W, IsRD W r R X → Calls Tryz.prog 106 #[.pointer (some ⟨r, 0, none⟩), .int .i64 1] W fun e w' => e = .returned (.tuple #[.agg #[.int .i64 b1.epoch, .int .i64 b1.conf.slots, .int .i64 b1.conf.size, .int .i64 b1.conf.reserve, .int .i64 b1.conf.work, .int .i64 b1.conf.key, .int .i64 b1.conf.value, .int .i64 b1.conf.policy], .bool true]) ∧ Below W.heap.size W w') := fun W hW => by
            have := rcopied hW hup 1 (by omega) e1 b1 h1
            rw [show (e1 == 0) = true by simpa using a1] at this
            exact this
          have HX : Hid (readX X = (0, 1, b1)) := by show _ = _; rw [read_pair hup h0 h1]; simp [a0, a1]
          clear h0 h1 a0 a1 
          go_enter Tryz.func62, Tryz.ntmps62
          go_wp2_with fail
          rw [← hb2, ← hW1]
          clear hW1 hb2
          refine HSL.out.mono ?_
          rintro e w1 ⟨rfl, rfl⟩
          go_wp2_with fail
          refine HDN.out.mono ?_
          rintro e w1 ⟨rfl, rfl⟩
          go_wp2_with fail
          refine (HC0.out _ (HH.out.below HS1.out.bel)).mono ?_
          rintro e w2 ⟨rfl, hb⟩
          obtain ⟨b5, hb5⟩ : ∃ b5, b5 = w2.heap.size := ⟨_, rfl⟩
          obtain ⟨W3, hW3⟩ : ∃ W3 : World, W3 = w2.alloc (.cells #[.int .i64 b0.epoch, .int .i64 b0.conf.slots, .int .i64 b0.conf.size, .int .i64 b0.conf.reserve, .int .i64 b0.conf.work, .int .i64 b0.conf.key, .int .i64 b0.conf.value, .int .i64 b0.conf.policy] 57) := ⟨_, rfl⟩
          have HS3 : Hid (Sep w.heap.size w W3 [blkOb b5 57 (bkv b0), blkOb b2 57 (bkv bk0)]) := by
            show Sep _ _ _ _
            rw [hW3]
            exact (HS1.out.below hb).newBlk b5 _ _ hb5
          clear hb HC0
          go_upto_region 6 with fail
          rw [← hb5, ← hW3]
          clear hb5 hW3
          go_wp2_with fail
          refine (HC1.out _ (HH.out.below HS3.out.bel)).mono ?_
          rintro e w4 ⟨rfl, hb⟩
          obtain ⟨b7, hb7⟩ : ∃ b7, b7 = w4.heap.size := ⟨_, rfl⟩
          obtain ⟨W5, hW5⟩ : ∃ W5 : World, W5 = w4.alloc (.cells #[.int .i64 b1.epoch, .int .i64 b1.conf.slots, .int .i64 b1.conf.size, .int .i64 b1.conf.reserve, .int .i64 b1.conf.work, .int .i64 b1.conf.key, .int .i64 b1.conf.value, .int .i64 b1.conf.policy] 57) := ⟨_, rfl⟩
          have HS5 : Hid (Sep w.heap.size w W5 [blkOb b2 57 (bkv bk0), blkOb b7 57 (bkv b1), blkOb b5 57 (bkv b0)]) := by
            show Sep _ _ _ _
            rw [hW5]
            exact ((HS3.out.below hb).newBlk b7 _ _ hb7).perm (List.perm_middle (l₁ := [_, _]))
          clear hb HC1
          go_upto_region 7 with fail
          rw [← hb7, ← hW5]
          clear hb7 hW5
          have hk7 : Blk W5 b7 57 (bkv b1) := HS5.out.get (.tail _ (.head _))
          have hk5 : Blk W5 b5 57 (bkv b0) := HS5.out.get (.tail _ (.tail _ (.head _)))
          have q5 : W5.cell? ⟨b5, 0, none⟩ = some (.int .i64 b0.epoch) := hk5.cell 0
          have q7 : W5.cell? ⟨b7, 0, none⟩ = some (.int .i64 b1.epoch) := hk7.cell 0
          have HK5 := Lib.hid hk5
          have HK7 := Lib.hid hk7
          clear hk5 hk7
          go_wp2_with (first
            | (refine wpList_load_row rfl 57 _ rfl b7 rfl 57 (bkv b1) (0, 0) _ HK7.out Tryz.underlying57 rfl rbk_size ?_)
            | (refine wpList_store_row rfl 57 _ _ rfl b2 (bkv b1) rfl rfl 57 (bkv bk0) (show Blk _ b2 57 (bkv bk0) from HS5.out.get (.head _)) rbk_size rfl (bkv_one _) ?_))
          have hz := HS5.out.setRowBlk (bkv b1)
          refine bodyPost_ret (results_blk_tmp2 rfl _ _ b2 57 (bkv b1) _ rfl (show Blk _ b2 57 (bkv b1) from hz.get (.head _)) Tryz.underlying57 rfl rbk_size) rfl ?_
          rw [HX.out]
          exact ⟨rfl, hz.bel⟩
      · as_aux_lemma =>
          have HC0 : Hid (∀ W, IsRD W r R X → Calls Tryz.prog 106 #[.pointer (some ⟨r, 0, none⟩), .int .i64 0] W fun e w' => e = .returned (.tuple #[.agg #[.int .i64 b0.epoch, .int .i64 b0.conf.slots, .int .i64 b0.conf.size, .int .i64 b0.conf.reserve, .int .i64 b0.conf.work, .int .i64 b0.conf.key, .int .i64 b0.conf.value, .int .i64 b0.conf.policy], .bool false]) ∧ Below W.heap.size W w') := fun W hW => by
            have := rcopied hW hup 0 (by omega) e0 b0 h0
            rw [show (e0 == 0) = false by simpa using a0] at this
            exact this
          have HC1 : Hid (∀ W, IsRD W r R X → Calls Tryz.prog 106 #[.pointer (some ⟨r, 0, none⟩), .int .i64 1] W fun e w' => e = .returned (.tuple #[.agg #[.int .i64 b1.epoch, .int .i64 b1.conf.slots, .int .i64 b1.conf.size, .int .i64 b1.conf.reserve, .int .i64 b1.conf.work, .int .i64 b1.conf.key, .int .i64 b1.conf.value, .int .i64 b1.conf.policy], .bool false]) ∧ Below W.heap.size W w') := fun W hW => by
            have := rcopied hW hup 1 (by omega) e1 b1 h1
            rw [show (e1 == 0) = false by simpa using a1] at this
            exact this
          have HX : Hid (readX X = (5, 0, bk0)) := by show _ = _; rw [read_pair hup h0 h1]; simp [a0, a1]
          clear h0 h1 a0 a1 
          go_enter Tryz.func62, Tryz.ntmps62
          go_wp2_with fail
          rw [← hb2, ← hW1]
          clear hW1 hb2
          refine HSL.out.mono ?_
          rintro e w1 ⟨rfl, rfl⟩
          go_wp2_with fail
          refine HDN.out.mono ?_
          rintro e w1 ⟨rfl, rfl⟩
          go_wp2_with fail
          refine (HC0.out _ (HH.out.below HS1.out.bel)).mono ?_
          rintro e w2 ⟨rfl, hb⟩
          obtain ⟨b5, hb5⟩ : ∃ b5, b5 = w2.heap.size := ⟨_, rfl⟩
          obtain ⟨W3, hW3⟩ : ∃ W3 : World, W3 = w2.alloc (.cells #[.int .i64 b0.epoch, .int .i64 b0.conf.slots, .int .i64 b0.conf.size, .int .i64 b0.conf.reserve, .int .i64 b0.conf.work, .int .i64 b0.conf.key, .int .i64 b0.conf.value, .int .i64 b0.conf.policy] 57) := ⟨_, rfl⟩
          have HS3 : Hid (Sep w.heap.size w W3 [blkOb b5 57 (bkv b0), blkOb b2 57 (bkv bk0)]) := by
            show Sep _ _ _ _
            rw [hW3]
            exact (HS1.out.below hb).newBlk b5 _ _ hb5
          clear hb HC0
          go_upto_region 6 with fail
          rw [← hb5, ← hW3]
          clear hb5 hW3
          go_wp2_with fail
          refine (HC1.out _ (HH.out.below HS3.out.bel)).mono ?_
          rintro e w4 ⟨rfl, hb⟩
          obtain ⟨b7, hb7⟩ : ∃ b7, b7 = w4.heap.size := ⟨_, rfl⟩
          obtain ⟨W5, hW5⟩ : ∃ W5 : World, W5 = w4.alloc (.cells #[.int .i64 b1.epoch, .int .i64 b1.conf.slots, .int .i64 b1.conf.size, .int .i64 b1.conf.reserve, .int .i64 b1.conf.work, .int .i64 b1.conf.key, .int .i64 b1.conf.value, .int .i64 b1.conf.policy] 57) := ⟨_, rfl⟩
          have HS5 : Hid (Sep w.heap.size w W5 [blkOb b2 57 (bkv bk0), blkOb b7 57 (bkv b1), blkOb b5 57 (bkv b0)]) := by
            show Sep _ _ _ _
            rw [hW5]
            exact ((HS3.out.below hb).newBlk b7 _ _ hb7).perm (List.perm_middle (l₁ := [_, _]))
          clear hb HC1
          go_upto_region 7 with fail
          rw [← hb7, ← hW5]
          clear hb7 hW5
          have hk7 : Blk W5 b7 57 (bkv b1) := HS5.out.get (.tail _ (.head _))
          have hk5 : Blk W5 b5 57 (bkv b0) := HS5.out.get (.tail _ (.tail _ (.head _)))
          have q5 : W5.cell? ⟨b5, 0, none⟩ = some (.int .i64 b0.epoch) := hk5.cell 0
          have q7 : W5.cell? ⟨b7, 0, none⟩ = some (.int .i64 b1.epoch) := hk7.cell 0
          have HK5 := Lib.hid hk5
          have HK7 := Lib.hid hk7
          clear hk5 hk7
          go_wp2_with (refine wpList_store_row rfl 57 _ _ rfl b2 (bkv bk0) rfl rfl 57 (bkv bk0) (show Blk _ b2 57 (bkv bk0) from HS5.out.get (.head _)) rbk_size rfl (bkv_one _) ?_)
          have hz := HS5.out.setRowBlk (bkv bk0)
          refine bodyPost_ret (results_blk_tmp2 rfl _ _ b2 57 (bkv bk0) _ rfl (show Blk _ b2 57 (bkv bk0) from hz.get (.head _)) Tryz.underlying57 rfl rbk_size) rfl ?_
          rw [HX.out]
          exact ⟨rfl, hz.bel⟩
end
end Go.Proofs.YtnopljanpjmbgaaGreat
namespace Go.Proofs.YtnopljanpjmbgaaGreat
open Go.RowKit Drum
set_option linter.unusedVariables false
theorem wpList_buildC {P : Program} {ops : Array Oper} {rest : List Oper} {o : Oper} {a : Act} {w : World} {Q : Exit → Act → World → Prop} (hg : o.guard = none) (t : TypeId) (i0 i1 : Nat) (x0 x1 : Operand) (ho : o.op = .build t #[(i0, x0), (i1, x1)])
    (v0 v1 : Value) (h0 : a.eval x0 = v0) (h1 : a.eval x1 = v1) (cells : Array Value) (hc : P.built t [(i0, v0), (i1, v1)] = some cells) (h : wpList P ops Q rest (a.put o.dst (.agg cells)) w) : wpList P ops Q (o :: rest) a w := by
  have hx : ((#[(i0, x0), (i1, x1)] : Array (Nat × Operand)).map fun (i, x) => (i, a.eval x)).toList = [(i0, v0), (i1, v1)] := by simp [h0, h1]
  exact wpList_build hg t _ ho (by rw [hx, hc]; rfl) (by rw [hx, hc]; exact h)
theorem rbuilt (s0 s1 s2 s3 s4 s5 s6 s7 : Int) : Tryz.prog.built 57 [(0, .int .i64 s0), (1, .agg #[.int .i64 s1, .int .i64 s2, .int .i64 s3, .int .i64 s4, .int .i64 s5, .int .i64 s6, .int .i64 s7])] = some #[.int .i64 s0, .int .i64 s1, .int .i64 s2, .int .i64 s3, .int .i64 s4, .int .i64 s5, .int .i64 s6, .int .i64 s7] := by
  kernel_rfl
theorem wX_ok {X : DevD} (h : X.Ok) (b : Bk) (j : Nat) : (wX X b j).Ok := by
  match j with
  | 0 => exact h
  | 1 => exact eraseVX_ok h _
  | 2 => exact appVX_ok (eraseVX_ok h _) _ _
  | j + 3 => exact syncVX_ok (appVX_ok (eraseVX_ok h _) _ _) _
theorem writeX_ok {X : DevD} (h : X.Ok) (b : Bk) : (writeX X b).2.Ok := by
  unfold writeX
  split
  · exact h
  · split
    · exact h
    · split
      · exact wX_ok h b 1
      · split
        · exact wX_ok h b 2
        · exact wX_ok h b 3
section
variable {B : Nat} {w0 w w' : World} {os : List Ob} {r : Nat} {R : RLay} {X : DevD}
theorem rv_in {o1 : Ob} (h : Sep B w0 w (o1 :: rv3 r R X os)) : Sep B w0 w (rv3 r R X (o1 :: os)) := h.perm (List.perm_middle (l₁ := [_, _, _])).symm
theorem rv_out {o1 : Ob} (h : Sep B w0 w (rv3 r R X (o1 :: os))) : Sep B w0 w (o1 :: rv3 r R X os) := h.perm (List.perm_middle (l₁ := [_, _, _]))
theorem rv_drop {o1 : Ob} (h : Sep B w0 w (rv3 r R X (o1 :: os))) : Sep B w0 w (rv3 r R X os) := h.sub (.cons_cons _ (.cons_cons _ (.cons_cons _ (.cons _ (List.Sublist.refl _)))))
theorem rv_get {o1 : Ob} (h : Sep B w0 w (rv3 r R X (o1 :: os))) : o1.P w := h.get (.tail _ (.tail _ (.tail _ (.head _))))
theorem rv_get2 {o1 o2 : Ob} (h : Sep B w0 w (rv3 r R X (o1 :: o2 :: os))) : o2.P w := h.get (.tail _ (.tail _ (.tail _ (.tail _ (.head _)))))
set_option maxRecDepth 100000 in
set_option maxHeartbeats 8000000 in
theorem sep_rwrite (h : Sep B w0 w (rv3 r R X os)) (hX : X.Ok) (hops : X.ops < 4611686018427380000) (b : Bk) (hb : b.wf) :
    Calls Tryz.prog 22 #[.pointer (some ⟨r, 0, none⟩), .agg #[.int .i64 b.epoch, .int .i64 b.conf.slots, .int .i64 b.conf.size, .int .i64 b.conf.reserve, .int .i64 b.conf.work, .int .i64 b.conf.key, .int .i64 b.conf.value, .int .i64 b.conf.policy]] w fun e w' => e = .returned (.int .i64 (writeX X b).1) ∧ ∃ R', Sep B w0 w' (rv3 r R' (writeX X b).2 os) := by
  obtain ⟨b3, hb3⟩ : ∃ b3, b3 = w.heap.size := ⟨_, rfl⟩
  obtain ⟨W1, hW1⟩ : ∃ W1 : World, W1 = w.alloc (.cells #[.int .i64 b.epoch, .int .i64 b.conf.slots, .int .i64 b.conf.size, .int .i64 b.conf.reserve, .int .i64 b.conf.work, .int .i64 b.conf.key, .int .i64 b.conf.value, .int .i64 b.conf.policy] 57) := ⟨_, rfl⟩
  have HS1 : Hid (Sep B w0 W1 (rv3 r R X (blkOb b3 57 #[.int .i64 b.epoch, .int .i64 b.conf.slots, .int .i64 b.conf.size, .int .i64 b.conf.reserve, .int .i64 b.conf.work, .int .i64 b.conf.key, .int .i64 b.conf.value, .int .i64 b.conf.policy] :: os))) := by
    show Sep _ _ _ _
    rw [hW1]
    exact rv_in (h.newBlk b3 _ _ hb3)
  have hd := HS1.out.rd hX
  have HSL := Lib.hid (rd_slots hd)
  have HDN := Lib.hid (rd_down hd)
  have hn2 := hX.n2
  have hn32 := hX.n32
  have hz : ((X.n : Int) == 0) = false := by simp; omega
  have HOKX := Lib.hid hX
  have HWF := Lib.hid hb
  have hk3 : Blk W1 b3 57 #[.int .i64 b.epoch, .int .i64 b.conf.slots, .int .i64 b.conf.size, .int .i64 b.conf.reserve, .int .i64 b.conf.work, .int .i64 b.conf.key, .int .i64 b.conf.value, .int .i64 b.conf.policy] := rv_get HS1.out
  have q0 : W1.cell? ⟨b3, 0, none⟩ = some (.int .i64 b.epoch) := hk3.cell 0
  have q1 : W1.cell? ⟨b3, 1, none⟩ = some (.int .i64 b.conf.slots) := hk3.cell 1
  have q2 : W1.cell? ⟨b3, 2, none⟩ = some (.int .i64 b.conf.size) := hk3.cell 2
  have q3 : W1.cell? ⟨b3, 3, none⟩ = some (.int .i64 b.conf.reserve) := hk3.cell 3
  have q4 : W1.cell? ⟨b3, 4, none⟩ = some (.int .i64 b.conf.work) := hk3.cell 4
  have q5 : W1.cell? ⟨b3, 5, none⟩ = some (.int .i64 b.conf.key) := hk3.cell 5
  have q6 : W1.cell? ⟨b3, 6, none⟩ = some (.int .i64 b.conf.value) := hk3.cell 6
  have q7 : W1.cell? ⟨b3, 7, none⟩ = some (.int .i64 b.conf.policy) := hk3.cell 7
  have hops' := hops
  clear hd hk3 h hX hb hops'
  by_cases hok : b.ok
  · cases hup : X.down with
    | true =>
      as_aux_lemma =>
        have HX : Hid (writeX X b = (13, X)) := by
          show _ = _
          unfold writeX
          rw [if_neg (by simpa using hok), if_pos hup]
        have HEN : Hid (Calls Tryz.prog 66 #[.agg #[.int .i64 b.epoch, .int .i64 b.conf.slots, .int .i64 b.conf.size, .int .i64 b.conf.reserve, .int .i64 b.conf.work, .int .i64 b.conf.key, .int .i64 b.conf.value, .int .i64 b.conf.policy]] W1 fun ed w' => ∃ v, ed = .returned (.tuple #[v, .int .i64 0]) ∧ w'.ownsRow W1.heap.size 5 1 v 64 (u8s (encOf b)) ∧ Below W1.heap.size W1 w') := refEncode_any b HWF.out hok W1
        clear hok
        go_enter Tryz.func22, Tryz.ntmps22
        go_wp2_with fail
        rw [← hb3, ← hW1]
        clear hW1 hb3
        refine HSL.out.mono ?_
        rintro e w1 ⟨rfl, rfl⟩
        go_wp2_with fail
        refine HEN.out.mono ?_
        rintro e w2 ⟨vv, rfl, ho, hb⟩
        obtain ⟨A, c, rfl, hc1, hc2, _⟩ := own_slice ho
        have HS2 : Hid (Sep B w0 w2 (rv3 r R X (rowOb 5 1 (.slice A 64 c) 64 (u8s (encOf b)) :: blkOb b3 57 #[.int .i64 b.epoch, .int .i64 b.conf.slots, .int .i64 b.conf.size, .int .i64 b.conf.reserve, .int .i64 b.conf.work, .int .i64 b.conf.key, .int .i64 b.conf.value, .int .i64 b.conf.policy] :: os))) := rv_in (HS1.out.addRow hb ho)
        have HSL2 := Lib.hid (rd_slots (HS2.out.rd HOKX.out))
        have HDN2 := Lib.hid (rd_down (HS2.out.rd HOKX.out))
        rw [hup] at HDN2
        clear hb ho HEN HSL HDN q0 q1 q2 q3 q4 q5 q6 q7
        go_wp2_with fail
        refine HDN2.out.mono ?_
        rintro e w1 ⟨rfl, rfl⟩
        go_wp2_with fail
        go_ret
        rw [HX.out]
        exact ⟨rfl, R, rv_drop (rv_drop HS2.out)⟩
    | false =>
      as_aux_lemma =>
        have HX := Lib.hid (show writeX X b = if wE X b 0 ≠ 0 then (wE X b 0, wX X b 1) else if wE X b 1 ≠ 0 then (wE X b 1, wX X b 2) else (wE X b 2, wX X b 3) by
          unfold writeX
          rw [if_neg (by simpa using hok), hup, if_neg (by simp)])
        have HEN : Hid (Calls Tryz.prog 66 #[.agg #[.int .i64 b.epoch, .int .i64 b.conf.slots, .int .i64 b.conf.size, .int .i64 b.conf.reserve, .int .i64 b.conf.work, .int .i64 b.conf.key, .int .i64 b.conf.value, .int .i64 b.conf.policy]] W1 fun ed w' => ∃ v, ed = .returned (.tuple #[v, .int .i64 0]) ∧ w'.ownsRow W1.heap.size 5 1 v 64 (u8s (encOf b)) ∧ Below W1.heap.size W1 w') := refEncode_any b HWF.out hok W1
        have hep : 1 ≤ b.epoch := hok.1.1
        obtain ⟨par, hpr⟩ : ∃ par : Nat, (b.epoch % 2).toNat = par := ⟨_, rfl⟩
        have hpar2 : par < 2 := by omega
        have hws : wslot X b = X.n + par := by unfold wslot; rw [hpr]
        have hpar : b.epoch.tmod 2 = (par : Int) := by rw [Int.tmod_eq_emod_of_nonneg (by omega)]; omega
        have hwp : IntKind.i64.wrap (par : Int) = (par : Int) := by rw [IntKind.wrap_i64]; omega
        have hws2 : IntKind.i64.wrap ((X.n : Int) + (par : Int)) = (wslot X b : Int) := by rw [IntKind.wrap_i64, hws]; omega
        generalize hwse : wslot X b = s at hws hws2
        have HWS := Lib.hid hwse
        have HWP := Lib.hid (And.intro hpar (And.intro hwp hws2))
        clear hok hpr hpar hwp hws2 hws hwse
        go_enter Tryz.func22, Tryz.ntmps22
        go_wp2_with fail
        rw [← hb3, ← hW1]
        clear hW1 hb3
        refine HSL.out.mono ?_
        rintro e w1 ⟨rfl, rfl⟩
        go_wp2_with fail
        refine HEN.out.mono ?_
        rintro e w2 ⟨vv, rfl, ho, hb⟩
        obtain ⟨A, c, rfl, hc1, hc2, _⟩ := own_slice ho
        have HS2 : Hid (Sep B w0 w2 (rv3 r R X (rowOb 5 1 (.slice A 64 c) 64 (u8s (encOf b)) :: blkOb b3 57 #[.int .i64 b.epoch, .int .i64 b.conf.slots, .int .i64 b.conf.size, .int .i64 b.conf.reserve, .int .i64 b.conf.work, .int .i64 b.conf.key, .int .i64 b.conf.value, .int .i64 b.conf.policy] :: os))) := rv_in (HS1.out.addRow hb ho)
        have HSL2 := Lib.hid (rd_slots (HS2.out.rd HOKX.out))
        have HDN2 := Lib.hid (rd_down (HS2.out.rd HOKX.out))
        rw [hup] at HDN2
        clear hb ho HEN HSL HDN q0 q1 q2 q3 q4 q5 q6 q7
        go_wp2_with fail
        refine HDN2.out.mono ?_
        rintro e w1 ⟨rfl, rfl⟩
        have q30 : w2.cell? ⟨b3, 0, none⟩ = some (.int .i64 b.epoch) := by
          have hk3 : Blk w2 b3 57 #[.int .i64 b.epoch, .int .i64 b.conf.slots, .int .i64 b.conf.size, .int .i64 b.conf.reserve, .int .i64 b.conf.work, .int .i64 b.conf.key, .int .i64 b.conf.value, .int .i64 b.conf.policy] := rv_get2 HS2.out
          exact hk3.cell 0
        obtain ⟨STB, hSTB⟩ : ∃ STB : World → Prop, STB = fun W => Sep B w0 W (rv3 r R X (rowOb 5 1 (.slice A 64 c) 64 (u8s (encOf b)) :: blkOb b3 57 #[.int .i64 b.epoch, .int .i64 b.conf.slots, .int .i64 b.conf.size, .int .i64 b.conf.reserve, .int .i64 b.conf.work, .int .i64 b.conf.key, .int .i64 b.conf.value, .int .i64 b.conf.policy] :: os)) := ⟨_, rfl⟩
        have HSB : Hid (∀ W, STB W → Calls Tryz.prog 58 #[.pointer (some ⟨r, 0, none⟩)] W fun e w' => e = .returned (.int .i64 (X.n : Int)) ∧ W = w') := fun W hW => by
          rw [hSTB] at hW
          exact rd_slots (Sep.rd hW HOKX.out)
        have stb0 : STB w2.drew := by rw [hSTB]; exact HS2.out.drew
        have HST := Lib.hid hSTB
        obtain ⟨hpar, hwp, hws2⟩ := HWP.out
        clear hSTB HSL2 HDN2
        go_wp2_with fail
        go_region_held3 (fun X' => X'.cell? ⟨b3, 0, none⟩ = some (.int .i64 b.epoch)) (first | assumption | go_keep)
          (first
            | (go_at_call 58; refine (HSB.out _ (by assumption)).mono ?_; rintro e x9 ⟨rfl, rfl⟩))
        obtain ⟨W8, hW8⟩ : ∃ W8, W8 = w2.drew := ⟨_, rfl⟩
        have HS8 : Hid (Sep B w0 W8 (rv3 r R X (rowOb 5 1 (.slice A 64 c) 64 (u8s (encOf b)) :: blkOb b3 57 #[.int .i64 b.epoch, .int .i64 b.conf.slots, .int .i64 b.conf.size, .int .i64 b.conf.reserve, .int .i64 b.conf.work, .int .i64 b.conf.key, .int .i64 b.conf.value, .int .i64 b.conf.policy] :: os))) := by
          show Sep _ _ _ _
          rw [hW8]
          exact HS2.out.drew
        rw [← hW8]
        clear hW8 q30 hpar hwp hws2 stb0
        have CC := Lib.hid (rd_erase HS8.out HOKX.out (by omega) (s : Int))
        have he : oneVE X (s : Int) = wE X b 0 := by rw [← HWS.out]; rfl
        have hx : EraseVX X (s : Int) = wX X b 1 := by rw [← HWS.out]; rfl
        rw [he, hx] at CC
        generalize hee : wE X b 0 = er at CC
        have HE0 := Lib.hid hee
        clear he hx hee
        go_wp2_with fail
        refine CC.out.mono ?_
        rintro e w11 ⟨rfl, R1, hs⟩
        have HS11 := Lib.hid hs
        clear hs CC
        by_cases hr : er = 0
        · subst hr
          have CC := Lib.hid (rd_append HS11.out (wX_ok HOKX.out b 1) (by have := wX_ops X b 1; omega) (s : Int) (Holds.of_own (rv_get HS11.out)) (by have := encOf_length b; omega))
          have he : appVE (wX X b 1) (s : Int) (encOf b) = wE X b 1 := by rw [← HWS.out]; rfl
          have hx : appVX (wX X b 1) (s : Int) (encOf b) = wX X b 2 := by rw [← HWS.out]; rfl
          rw [he, hx] at CC
          generalize hee : wE X b 1 = er at CC
          have HE1 := Lib.hid hee
          clear he hx hee
          go_wp2_with fail
          refine CC.out.mono ?_
          rintro e w12 ⟨rfl, R2, hs⟩
          have HS12 := Lib.hid hs
          clear hs CC
          by_cases hr : er = 0
          · subst hr
            have CC := Lib.hid (rd_sync HS12.out (wX_ok HOKX.out b 2) (by have := wX_ops X b 2; omega) (s : Int))
            have he : oneVE (wX X b 2) (s : Int) = wE X b 2 := by rw [← HWS.out]; rfl
            have hx : SyncVX (wX X b 2) (s : Int) = wX X b 3 := by rw [← HWS.out]; rfl
            rw [he, hx] at CC
            generalize hee : wE X b 2 = er at CC
            have HE2 := Lib.hid hee
            clear he hx hee
            go_wp2_with fail
            refine CC.out.mono ?_
            rintro e w13 ⟨rfl, R3, hs⟩
            have HS13 := Lib.hid hs
            clear hs CC
            have hfin : writeX X b = (er, wX X b 3) := by rw [HX.out, HE0.out, if_neg (by simp), HE1.out, if_neg (by simp), HE2.out]
            have HFIN := Lib.hid hfin
            clear hfin
            go_wp2_with fail
            go_ret
            rw [HFIN.out]
            exact ⟨rfl, R3, rv_drop (rv_drop HS13.out)⟩
          · have hb0 : (er == 0) = false := by rw [beq_eq_false_iff_ne]; exact hr
            have hfin : writeX X b = (er, wX X b 2) := by rw [HX.out, HE0.out, if_neg (by simp), HE1.out, if_pos hr]
            have HFIN := Lib.hid hfin
            clear hr hfin
            go_wp2_with fail
            go_ret
            rw [HFIN.out]
            exact ⟨rfl, R2, rv_drop (rv_drop HS12.out)⟩
        · have hb0 : (er == 0) = false := by rw [beq_eq_false_iff_ne]; exact hr
          have hfin : writeX X b = (er, wX X b 1) := by rw [HX.out, HE0.out, if_pos hr]
          have HFIN := Lib.hid hfin
          clear hr hfin
          go_wp2_with fail
          go_ret
          rw [HFIN.out]
          exact ⟨rfl, R1, rv_drop (rv_drop HS11.out)⟩
  · as_aux_lemma =>
      have HX : Hid (writeX X b = (2, X)) := if_pos hok
      have HEN : Hid (Calls Tryz.prog 66 #[.agg #[.int .i64 b.epoch, .int .i64 b.conf.slots, .int .i64 b.conf.size, .int .i64 b.conf.reserve, .int .i64 b.conf.work, .int .i64 b.conf.key, .int .i64 b.conf.value, .int .i64 b.conf.policy]] W1 fun e w' => e = .returned (.tuple #[.slice none 0 0, .int .i64 2]) ∧ Below W1.heap.size W1 w') := refEncode_bad b HWF.out hok W1
      clear hok
      go_enter Tryz.func22, Tryz.ntmps22
      go_wp2_with fail
      rw [← hb3, ← hW1]
      clear hW1 hb3
      refine HSL.out.mono ?_
      rintro e w1 ⟨rfl, rfl⟩
      go_wp2_with fail
      refine HEN.out.mono ?_
      rintro e w2 ⟨rfl, hb⟩
      have HS2 := Lib.hid (HS1.out.below hb)
      clear hb HEN q0 q1 q2 q3 q4 q5 q6 q7
      go_wp2_with fail
      go_ret
      rw [HX.out]
      exact ⟨rfl, R, rv_drop HS2.out⟩
set_option maxRecDepth 100000 in
set_option maxHeartbeats 16000000 in
theorem sep_rbegin_l (h : Sep B w0 w (rv3 r R X os)) (hX : X.Ok) (hops : X.ops < 4611686018427370000) (s1 s2 s3 s4 s5 s6 s7 : Int) (hc : Cf.wf ⟨s1, s2, s3, s4, s5, s6, s7⟩) :
    Calls Tryz.prog 19 #[.pointer (some ⟨r, 0, none⟩), .agg #[.int .i64 s1, .int .i64 s2, .int .i64 s3, .int .i64 s4, .int .i64 s5, .int .i64 s6, .int .i64 s7]] w fun e w' => e = .returned (.int .i64 (beginX X (⟨s1, s2, s3, s4, s5, s6, s7⟩ : Cf)).1) ∧ ∃ R', Sep B w0 w' (rv3 r R' (beginX X (⟨s1, s2, s3, s4, s5, s6, s7⟩ : Cf)).2 os) := by
  obtain ⟨b3, hb3⟩ : ∃ b3, b3 = w.heap.size := ⟨_, rfl⟩
  obtain ⟨W1, hW1⟩ : ∃ W1 : World, W1 = w.alloc (.cells #[.int .i64 s1, .int .i64 s2, .int .i64 s3, .int .i64 s4, .int .i64 s5, .int .i64 s6, .int .i64 s7] 26) := ⟨_, rfl⟩
  have HS1 : Hid (Sep B w0 W1 (rv3 r R X (blkOb b3 26 #[.int .i64 s1, .int .i64 s2, .int .i64 s3, .int .i64 s4, .int .i64 s5, .int .i64 s6, .int .i64 s7] :: os))) := by
    show Sep _ _ _ _
    rw [hW1]
    exact rv_in (h.newBlk b3 _ _ hb3)
  obtain ⟨STA, hSTA⟩ : ∃ STA : World → Prop, STA = fun W => Sep B w0 W (rv3 r R X (blkOb b3 26 #[.int .i64 s1, .int .i64 s2, .int .i64 s3, .int .i64 s4, .int .i64 s5, .int .i64 s6, .int .i64 s7] :: os)) := ⟨_, rfl⟩
  have HCE : Hid (∀ W, STA W → W.cell? ⟨b3, 0, none⟩ = some (.int .i64 s1) ∧ W.cell? ⟨b3, 1, none⟩ = some (.int .i64 s2) ∧ W.cell? ⟨b3, 2, none⟩ = some (.int .i64 s3) ∧ W.cell? ⟨b3, 3, none⟩ = some (.int .i64 s4) ∧ W.cell? ⟨b3, 4, none⟩ = some (.int .i64 s5) ∧ W.cell? ⟨b3, 5, none⟩ = some (.int .i64 s6) ∧ W.cell? ⟨b3, 6, none⟩ = some (.int .i64 s7)) := fun W hW => by
    rw [hSTA] at hW
    have hk : Blk W b3 26 #[.int .i64 s1, .int .i64 s2, .int .i64 s3, .int .i64 s4, .int .i64 s5, .int .i64 s6, .int .i64 s7] := rv_get hW
    exact ⟨hk.cell 0, hk.cell 1, hk.cell 2, hk.cell 3, hk.cell 4, hk.cell 5, hk.cell 6⟩
  have HSL : Hid (∀ W, STA W → Calls Tryz.prog 58 #[.pointer (some ⟨r, 0, none⟩)] W fun e w' => e = .returned (.int .i64 (X.n : Int)) ∧ W = w') := fun W hW => by
    rw [hSTA] at hW
    exact rd_slots (Sep.rd hW hX)
  have HDN : Hid (∀ W, STA W → Calls Tryz.prog 60 #[.pointer (some ⟨r, 0, none⟩)] W fun e w' => e = .returned (.bool X.down) ∧ W = w') := fun W hW => by
    rw [hSTA] at hW
    exact rd_down (Sep.rd hW hX)
  have HCK : Hid (∀ W, STA W → Calls Tryz.prog 59 #[.agg #[.int .i64 s1, .int .i64 s2, .int .i64 s3, .int .i64 s4, .int .i64 s5, .int .i64 s6, .int .i64 s7]] W fun e w' => e = .returned (.int .i64 (okN (⟨s1, s2, s3, s4, s5, s6, s7⟩ : Cf).ok)) ∧ STA w') := fun W hW => by
    refine (refCfCheck_any (⟨s1, s2, s3, s4, s5, s6, s7⟩ : Cf) hc W).mono ?_
    rintro e w' ⟨h1, h2⟩
    rw [hSTA] at hW ⊢
    exact ⟨h1, Sep.below hW h2⟩
  have sta1 : STA W1 := by rw [hSTA]; exact HS1.out
  have hn2 := hX.n2
  have hn32 := hX.n32
  have hz : ((X.n : Int) == 0) = false := by simp; omega
  have HOKX := Lib.hid hX
  have HWF := Lib.hid hc
  have HST := Lib.hid hSTA
  clear h hX hc hSTA
  have hops : X.ops < 4611686018427380000 := by omega
  by_cases hok : (⟨s1, s2, s3, s4, s5, s6, s7⟩ : Cf).ok
  · have HOK := Lib.hid (okN_yes hok)
    rw [HOK.out] at HCK
    by_cases hsl : s1 = (X.n : Int)
    · have hsb : (s1 == (X.n : Int)) = true := by simpa using hsl
      have hnn : ¬ ¬ ((⟨s1, s2, s3, s4, s5, s6, s7⟩ : Cf).ok ∧ s1 = (X.n : Int)) := fun e => e ⟨hok, hsl⟩
      cases hup : X.down with
      | true =>
        as_aux_lemma =>
          have HX : Hid (beginX X (⟨s1, s2, s3, s4, s5, s6, s7⟩ : Cf) = (13, X)) := by
            show _ = _
            unfold beginX
            rw [if_neg hnn, if_pos hup]
          clear hnn hok hsl HOK
          go_enter Tryz.func19, Tryz.ntmps19
          go_wp2_with fail
          rw [← hb3, ← hW1]
          clear hW1 hb3
          refine (HSL.out _ sta1).mono ?_
          rintro e w1 ⟨rfl, rfl⟩
          have sta2 : STA W1.drew := by rw [HST.out]; exact HS1.out.drew
          obtain ⟨q0, q1, q2, q3, q4, q5, q6⟩ := HCE.out _ sta1
          clear sta1
          go_wp2_with fail
          go_region_held3 (fun X' => X'.cell? ⟨b3, 0, none⟩ = some (.int .i64 s1) ∧ X'.cell? ⟨b3, 1, none⟩ = some (.int .i64 s2) ∧ X'.cell? ⟨b3, 2, none⟩ = some (.int .i64 s3) ∧ X'.cell? ⟨b3, 3, none⟩ = some (.int .i64 s4) ∧ X'.cell? ⟨b3, 4, none⟩ = some (.int .i64 s5) ∧ X'.cell? ⟨b3, 5, none⟩ = some (.int .i64 s6) ∧ X'.cell? ⟨b3, 6, none⟩ = some (.int .i64 s7)) ((repeat' apply And.intro) <;> first | assumption | go_keep)
            (first
              | (go_at_call 59; refine (HCK.out _ (by assumption)).mono ?_; rintro e x4 ⟨rfl, hs4⟩; obtain ⟨e0, e1, e2, e3, e4, e5, e6⟩ := HCE.out _ hs4)
              | (go_at_call 58; refine (HSL.out _ (by assumption)).mono ?_; rintro e x5 ⟨rfl, rfl⟩))
          all_goals
            have hs5 := hs4
            rw [HST.out] at hs4
            have HS4 := Lib.hid hs4
            have HDN4 := Lib.hid (HDN.out _ hs5)
            rw [hup] at HDN4
            clear hs4 hs5 q0 q1 q2 q3 q4 q5 q6
            go_wp2_with fail
            refine HDN4.out.mono ?_
            rintro e w5 ⟨rfl, rfl⟩
            go_wp2_with fail
            go_ret
            rw [HX.out]
            exact ⟨rfl, R, rv_drop HS4.out⟩
      | false =>
        have HX1 : Hid (beginX X (⟨s1, s2, s3, s4, s5, s6, s7⟩ : Cf) = if 0 < (cpL X 0).length ∨ 0 < (cpL X 1).length then (6, X) else if (writeX X ⟨1, (⟨s1, s2, s3, s4, s5, s6, s7⟩ : Cf)⟩).1 ≠ 0 then writeX X ⟨1, (⟨s1, s2, s3, s4, s5, s6, s7⟩ : Cf)⟩ else writeX (writeX X ⟨1, (⟨s1, s2, s3, s4, s5, s6, s7⟩ : Cf)⟩).2 ⟨2, (⟨s1, s2, s3, s4, s5, s6, s7⟩ : Cf)⟩) := by
          show _ = _
          unfold beginX
          rw [if_neg hnn, hup, if_neg (by simp)]
        clear hnn hok hsl HOK
        by_cases ha : 0 < (cpL X 0).length
        · as_aux_lemma =>
            have HX : Hid (beginX X (⟨s1, s2, s3, s4, s5, s6, s7⟩ : Cf) = (6, X)) := by show _ = _; rw [HX1.out, if_pos (.inl ha)]
            have da : decide ((0 : Int) < ((cpL X 0).length : Int)) = true := by simpa using ha
            go_enter Tryz.func19, Tryz.ntmps19
            go_wp2_with fail
            rw [← hb3, ← hW1]
            clear hW1 hb3
            refine (HSL.out _ sta1).mono ?_
            rintro e w1 ⟨rfl, rfl⟩
            have sta2 : STA W1.drew := by rw [HST.out]; exact HS1.out.drew
            obtain ⟨q0, q1, q2, q3, q4, q5, q6⟩ := HCE.out _ sta1
            clear sta1
            go_wp2_with fail
            go_region_held3 (fun X' => X'.cell? ⟨b3, 0, none⟩ = some (.int .i64 s1) ∧ X'.cell? ⟨b3, 1, none⟩ = some (.int .i64 s2) ∧ X'.cell? ⟨b3, 2, none⟩ = some (.int .i64 s3) ∧ X'.cell? ⟨b3, 3, none⟩ = some (.int .i64 s4) ∧ X'.cell? ⟨b3, 4, none⟩ = some (.int .i64 s5) ∧ X'.cell? ⟨b3, 5, none⟩ = some (.int .i64 s6) ∧ X'.cell? ⟨b3, 6, none⟩ = some (.int .i64 s7)) ((repeat' apply And.intro) <;> first | assumption | go_keep)
              (first
                | (go_at_call 59; refine (HCK.out _ (by assumption)).mono ?_; rintro e x4 ⟨rfl, hs4⟩; obtain ⟨e0, e1, e2, e3, e4, e5, e6⟩ := HCE.out _ hs4)
                | (go_at_call 58; refine (HSL.out _ (by assumption)).mono ?_; rintro e x5 ⟨rfl, rfl⟩))
            all_goals
              have hs5 := hs4
              rw [HST.out] at hs4
              have HS4 := Lib.hid hs4
              have HDN4 := Lib.hid (HDN.out _ hs5)
              rw [hup] at HDN4
              have HSL4 := Lib.hid (HSL.out _ hs5)
              have HLA := Lib.hid (rcp_len (HS4.out.rd HOKX.out) hup 0 (by omega) (X.n : Int) (by omega))
              clear hs4 hs5 q0 q1 q2 q3 q4 q5 q6 e0 e1 e2 e3 e4 e5 e6
              go_wp2_with fail
              refine HDN4.out.mono ?_
              rintro e w5 ⟨rfl, rfl⟩
              try (rename (s1 != (X.n : Int)) = false => hne; clear hne)
              clear hsb
              go_wp2_with fail
              refine HSL4.out.mono ?_
              rintro e w5 ⟨rfl, rfl⟩
              go_wp2_with fail
              refine HLA.out.mono ?_
              rintro e w6 ⟨rfl, hb⟩
              have HS6 := Lib.hid (HS4.out.below hb)
              have HSL6 := Lib.hid (rd_slots (HS6.out.rd HOKX.out))
              have HLB := Lib.hid (rcp_len (HS6.out.rd HOKX.out) hup 1 (by omega) ((X.n : Int) + 1) (by omega))
              clear hb HLA HSL4 HDN4
              go_wp2_with fail
              refine HSL6.out.mono ?_
              rintro e w7 ⟨rfl, rfl⟩
              go_wp2_with fail
              refine HLB.out.mono ?_
              rintro e w8 ⟨rfl, hb⟩
              have HS8 := Lib.hid (HS6.out.below hb)
              clear hb HLB HSL6
              go_wp2_with fail
              go_ret
              rw [HX.out]
              exact ⟨rfl, R, rv_drop HS8.out⟩
        · have da : decide ((0 : Int) < ((cpL X 0).length : Int)) = false := by simpa using ha
          by_cases hb : 0 < (cpL X 1).length
          · as_aux_lemma =>
              have HX : Hid (beginX X (⟨s1, s2, s3, s4, s5, s6, s7⟩ : Cf) = (6, X)) := by show _ = _; rw [HX1.out, if_pos (.inr hb)]
              have db : decide ((0 : Int) < ((cpL X 1).length : Int)) = true := by simpa using hb
              go_enter Tryz.func19, Tryz.ntmps19
              go_wp2_with fail
              rw [← hb3, ← hW1]
              clear hW1 hb3
              refine (HSL.out _ sta1).mono ?_
              rintro e w1 ⟨rfl, rfl⟩
              have sta2 : STA W1.drew := by rw [HST.out]; exact HS1.out.drew
              obtain ⟨q0, q1, q2, q3, q4, q5, q6⟩ := HCE.out _ sta1
              clear sta1
              go_wp2_with fail
              go_region_held3 (fun X' => X'.cell? ⟨b3, 0, none⟩ = some (.int .i64 s1) ∧ X'.cell? ⟨b3, 1, none⟩ = some (.int .i64 s2) ∧ X'.cell? ⟨b3, 2, none⟩ = some (.int .i64 s3) ∧ X'.cell? ⟨b3, 3, none⟩ = some (.int .i64 s4) ∧ X'.cell? ⟨b3, 4, none⟩ = some (.int .i64 s5) ∧ X'.cell? ⟨b3, 5, none⟩ = some (.int .i64 s6) ∧ X'.cell? ⟨b3, 6, none⟩ = some (.int .i64 s7)) ((repeat' apply And.intro) <;> first | assumption | go_keep)
                (first
                  | (go_at_call 59; refine (HCK.out _ (by assumption)).mono ?_; rintro e x4 ⟨rfl, hs4⟩; obtain ⟨e0, e1, e2, e3, e4, e5, e6⟩ := HCE.out _ hs4)
                  | (go_at_call 58; refine (HSL.out _ (by assumption)).mono ?_; rintro e x5 ⟨rfl, rfl⟩))
              all_goals
                have hs5 := hs4
                rw [HST.out] at hs4
                have HS4 := Lib.hid hs4
                have HDN4 := Lib.hid (HDN.out _ hs5)
                rw [hup] at HDN4
                have HSL4 := Lib.hid (HSL.out _ hs5)
                have HLA := Lib.hid (rcp_len (HS4.out.rd HOKX.out) hup 0 (by omega) (X.n : Int) (by omega))
                clear hs4 hs5 q0 q1 q2 q3 q4 q5 q6 e0 e1 e2 e3 e4 e5 e6
                go_wp2_with fail
                refine HDN4.out.mono ?_
                rintro e w5 ⟨rfl, rfl⟩
                try (rename (s1 != (X.n : Int)) = false => hne; clear hne)
                clear hsb
                go_wp2_with fail
                refine HSL4.out.mono ?_
                rintro e w5 ⟨rfl, rfl⟩
                go_wp2_with fail
                refine HLA.out.mono ?_
                rintro e w6 ⟨rfl, hb⟩
                have HS6 := Lib.hid (HS4.out.below hb)
                have HSL6 := Lib.hid (rd_slots (HS6.out.rd HOKX.out))
                have HLB := Lib.hid (rcp_len (HS6.out.rd HOKX.out) hup 1 (by omega) ((X.n : Int) + 1) (by omega))
                clear hb HLA HSL4 HDN4
                go_wp2_with fail
                refine HSL6.out.mono ?_
                rintro e w7 ⟨rfl, rfl⟩
                go_wp2_with fail
                refine HLB.out.mono ?_
                rintro e w8 ⟨rfl, hb⟩
                have HS8 := Lib.hid (HS6.out.below hb)
                clear hb HLB HSL6
                go_wp2_with fail
                go_ret
                rw [HX.out]
                exact ⟨rfl, R, rv_drop HS8.out⟩
          · have db : decide ((0 : Int) < ((cpL X 1).length : Int)) = false := by simpa using hb
            have hnab : ¬ (0 < (cpL X 0).length ∨ 0 < (cpL X 1).length) := by simp only [not_or]; exact ⟨ha, hb⟩
            have HL0 : Hid (((cpL X 0).length : Int) = 0 ∧ ((cpL X 1).length : Int) = 0) := ⟨by omega, by omega⟩
            clear da db
            obtain ⟨er, Y, hw1⟩ : ∃ er Y, writeX X ⟨1, (⟨s1, s2, s3, s4, s5, s6, s7⟩ : Cf)⟩ = (er, Y) := ⟨_, _, rfl⟩
            have HW1 := Lib.hid hw1
            by_cases hr : er = 0
            · as_aux_lemma =>
                subst hr
                have HX : Hid (beginX X (⟨s1, s2, s3, s4, s5, s6, s7⟩ : Cf) = writeX Y ⟨2, (⟨s1, s2, s3, s4, s5, s6, s7⟩ : Cf)⟩) := by show _ = _; rw [HX1.out, if_neg hnab, hw1, if_neg (by simp)]
                clear ha hb hnab hw1 HX1
                go_enter Tryz.func19, Tryz.ntmps19
                go_wp2_with fail
                rw [← hb3, ← hW1]
                clear hW1 hb3
                refine (HSL.out _ sta1).mono ?_
                rintro e w1 ⟨rfl, rfl⟩
                have sta2 : STA W1.drew := by rw [HST.out]; exact HS1.out.drew
                obtain ⟨q0, q1, q2, q3, q4, q5, q6⟩ := HCE.out _ sta1
                clear sta1
                go_wp2_with fail
                go_region_held3 (fun X' => X'.cell? ⟨b3, 0, none⟩ = some (.int .i64 s1) ∧ X'.cell? ⟨b3, 1, none⟩ = some (.int .i64 s2) ∧ X'.cell? ⟨b3, 2, none⟩ = some (.int .i64 s3) ∧ X'.cell? ⟨b3, 3, none⟩ = some (.int .i64 s4) ∧ X'.cell? ⟨b3, 4, none⟩ = some (.int .i64 s5) ∧ X'.cell? ⟨b3, 5, none⟩ = some (.int .i64 s6) ∧ X'.cell? ⟨b3, 6, none⟩ = some (.int .i64 s7)) ((repeat' apply And.intro) <;> first | assumption | go_keep)
                  (first
                    | (go_at_call 59; refine (HCK.out _ (by assumption)).mono ?_; rintro e x4 ⟨rfl, hs4⟩; obtain ⟨e0, e1, e2, e3, e4, e5, e6⟩ := HCE.out _ hs4)
                    | (go_at_call 58; refine (HSL.out _ (by assumption)).mono ?_; rintro e x5 ⟨rfl, rfl⟩))
                all_goals
                  have hs5 := hs4
                  rw [HST.out] at hs4
                  have HS4 := Lib.hid hs4
                  have HDN4 := Lib.hid (HDN.out _ hs5)
                  rw [hup] at HDN4
                  have HSL4 := Lib.hid (HSL.out _ hs5)
                  have HLA := Lib.hid (rcp_len (HS4.out.rd HOKX.out) hup 0 (by omega) (X.n : Int) (by omega))
                  rw [HL0.out.1] at HLA
                  clear hs4 hs5 q0 q1 q2 q3 q4 q5 q6 e0 e1 e2 e3 e4 e5 e6
                  go_wp2_with fail
                  refine HDN4.out.mono ?_
                  rintro e w5 ⟨rfl, rfl⟩
                  try (rename (s1 != (X.n : Int)) = false => hne; clear hne)
                  clear hsb
                  go_wp2_with fail
                  refine HSL4.out.mono ?_
                  rintro e w5 ⟨rfl, rfl⟩
                  go_wp2_with fail
                  refine HLA.out.mono ?_
                  rintro e w6 ⟨rfl, hb⟩
                  have HS6 := Lib.hid (HS4.out.below hb)
                  have HSL6 := Lib.hid (rd_slots (HS6.out.rd HOKX.out))
                  have HLB := Lib.hid (rcp_len (HS6.out.rd HOKX.out) hup 1 (by omega) ((X.n : Int) + 1) (by omega))
                  rw [HL0.out.2] at HLB
                  clear hb HLA HSL4 HDN4
                  go_wp2_with fail
                  refine HSL6.out.mono ?_
                  rintro e w7 ⟨rfl, rfl⟩
                  go_wp2_with fail
                  refine HLB.out.mono ?_
                  rintro e w8 ⟨rfl, hb⟩
                  have HS8 := Lib.hid (HS6.out.below hb)
                  clear hb HLB HSL6
                  have CW : Hid (Calls Tryz.prog 22 #[.pointer (some ⟨r, 0, none⟩), .agg #[.int .i64 1, .int .i64 s1, .int .i64 s2, .int .i64 s3, .int .i64 s4, .int .i64 s5, .int .i64 s6, .int .i64 s7]] w8 fun e w' => e = .returned (.int .i64 0) ∧ ∃ R', Sep B w0 w' (rv3 r R' Y (blkOb b3 26 #[.int .i64 s1, .int .i64 s2, .int .i64 s3, .int .i64 s4, .int .i64 s5, .int .i64 s6, .int .i64 s7] :: os))) := by
                    have := sep_rwrite HS8.out HOKX.out hops ⟨1, (⟨s1, s2, s3, s4, s5, s6, s7⟩ : Cf)⟩ (bk_wf (⟨s1, s2, s3, s4, s5, s6, s7⟩ : Cf) HWF.out 1 (by omega))
                    rw [HW1.out] at this
                    exact this
                  go_wp2_with (first | (refine wpList_load_row rfl 26 _ rfl b3 rfl 26 #[.int .i64 s1, .int .i64 s2, .int .i64 s3, .int .i64 s4, .int .i64 s5, .int .i64 s6, .int .i64 s7] (0, 0) _ (show Blk _ b3 26 #[.int .i64 s1, .int .i64 s2, .int .i64 s3, .int .i64 s4, .int .i64 s5, .int .i64 s6, .int .i64 s7] from rv_get HS8.out) Tryz.underlying26 rfl (by kernel_rfl) ?_) | (refine wpList_buildC rfl 57 _ _ _ _ rfl _ _ rfl rfl _ (rbuilt _ _ _ _ _ _ _ _) ?_))
                  refine CW.out.mono ?_
                  rintro e w9 ⟨rfl, R1, hs⟩
                  have HS9 := Lib.hid hs
                  clear hs CW
                  have CW2 : Hid (Calls Tryz.prog 22 #[.pointer (some ⟨r, 0, none⟩), .agg #[.int .i64 2, .int .i64 s1, .int .i64 s2, .int .i64 s3, .int .i64 s4, .int .i64 s5, .int .i64 s6, .int .i64 s7]] w9 fun e w' => e = .returned (.int .i64 (writeX Y ⟨2, (⟨s1, s2, s3, s4, s5, s6, s7⟩ : Cf)⟩).1) ∧ ∃ R', Sep B w0 w' (rv3 r R' (writeX Y ⟨2, (⟨s1, s2, s3, s4, s5, s6, s7⟩ : Cf)⟩).2 (blkOb b3 26 #[.int .i64 s1, .int .i64 s2, .int .i64 s3, .int .i64 s4, .int .i64 s5, .int .i64 s6, .int .i64 s7] :: os))) := by
                    have hy := writeX_ok HOKX.out ⟨1, (⟨s1, s2, s3, s4, s5, s6, s7⟩ : Cf)⟩
                    have ho := wE_ops X ⟨1, (⟨s1, s2, s3, s4, s5, s6, s7⟩ : Cf)⟩
                    rw [HW1.out] at hy ho
                    exact sep_rwrite HS9.out hy (by have : Y.ops ≤ X.ops + 3 := ho; omega) ⟨2, (⟨s1, s2, s3, s4, s5, s6, s7⟩ : Cf)⟩ (bk_wf (⟨s1, s2, s3, s4, s5, s6, s7⟩ : Cf) HWF.out 2 (by omega))
                  go_wp2_with (first | (refine wpList_load_row rfl 26 _ rfl b3 rfl 26 #[.int .i64 s1, .int .i64 s2, .int .i64 s3, .int .i64 s4, .int .i64 s5, .int .i64 s6, .int .i64 s7] (0, 0) _ (show Blk _ b3 26 #[.int .i64 s1, .int .i64 s2, .int .i64 s3, .int .i64 s4, .int .i64 s5, .int .i64 s6, .int .i64 s7] from rv_get HS9.out) Tryz.underlying26 rfl (by kernel_rfl) ?_) | (refine wpList_buildC rfl 57 _ _ _ _ rfl _ _ rfl rfl _ (rbuilt _ _ _ _ _ _ _ _) ?_))
                  refine CW2.out.mono ?_
                  rintro e w10 ⟨rfl, R2, hs⟩
                  have HS10 := Lib.hid hs
                  clear hs CW2
                  go_wp2_with fail
                  go_ret
                  rw [HX.out]
                  exact ⟨rfl, R2, rv_drop HS10.out⟩
            · as_aux_lemma =>
                have HX : Hid (beginX X (⟨s1, s2, s3, s4, s5, s6, s7⟩ : Cf) = (er, Y)) := by show _ = _; rw [HX1.out, if_neg hnab, hw1, if_pos hr]
                have hrb : (er == 0) = false := by rw [beq_eq_false_iff_ne]; exact hr
                clear ha hb hnab hw1 HX1 hr
                go_enter Tryz.func19, Tryz.ntmps19
                go_wp2_with fail
                rw [← hb3, ← hW1]
                clear hW1 hb3
                refine (HSL.out _ sta1).mono ?_
                rintro e w1 ⟨rfl, rfl⟩
                have sta2 : STA W1.drew := by rw [HST.out]; exact HS1.out.drew
                obtain ⟨q0, q1, q2, q3, q4, q5, q6⟩ := HCE.out _ sta1
                clear sta1
                go_wp2_with fail
                go_region_held3 (fun X' => X'.cell? ⟨b3, 0, none⟩ = some (.int .i64 s1) ∧ X'.cell? ⟨b3, 1, none⟩ = some (.int .i64 s2) ∧ X'.cell? ⟨b3, 2, none⟩ = some (.int .i64 s3) ∧ X'.cell? ⟨b3, 3, none⟩ = some (.int .i64 s4) ∧ X'.cell? ⟨b3, 4, none⟩ = some (.int .i64 s5) ∧ X'.cell? ⟨b3, 5, none⟩ = some (.int .i64 s6) ∧ X'.cell? ⟨b3, 6, none⟩ = some (.int .i64 s7)) ((repeat' apply And.intro) <;> first | assumption | go_keep)
                  (first
                    | (go_at_call 59; refine (HCK.out _ (by assumption)).mono ?_; rintro e x4 ⟨rfl, hs4⟩; obtain ⟨e0, e1, e2, e3, e4, e5, e6⟩ := HCE.out _ hs4)
                    | (go_at_call 58; refine (HSL.out _ (by assumption)).mono ?_; rintro e x5 ⟨rfl, rfl⟩))
                all_goals
                  have hs5 := hs4
                  rw [HST.out] at hs4
                  have HS4 := Lib.hid hs4
                  have HDN4 := Lib.hid (HDN.out _ hs5)
                  rw [hup] at HDN4
                  have HSL4 := Lib.hid (HSL.out _ hs5)
                  have HLA := Lib.hid (rcp_len (HS4.out.rd HOKX.out) hup 0 (by omega) (X.n : Int) (by omega))
                  rw [HL0.out.1] at HLA
                  clear hs4 hs5 q0 q1 q2 q3 q4 q5 q6 e0 e1 e2 e3 e4 e5 e6
                  go_wp2_with fail
                  refine HDN4.out.mono ?_
                  rintro e w5 ⟨rfl, rfl⟩
                  try (rename (s1 != (X.n : Int)) = false => hne; clear hne)
                  clear hsb
                  go_wp2_with fail
                  refine HSL4.out.mono ?_
                  rintro e w5 ⟨rfl, rfl⟩
                  go_wp2_with fail
                  refine HLA.out.mono ?_
                  rintro e w6 ⟨rfl, hb⟩
                  have HS6 := Lib.hid (HS4.out.below hb)
                  have HSL6 := Lib.hid (rd_slots (HS6.out.rd HOKX.out))
                  have HLB := Lib.hid (rcp_len (HS6.out.rd HOKX.out) hup 1 (by omega) ((X.n : Int) + 1) (by omega))
                  rw [HL0.out.2] at HLB
                  clear hb HLA HSL4 HDN4
                  go_wp2_with fail
                  refine HSL6.out.mono ?_
                  rintro e w7 ⟨rfl, rfl⟩
                  go_wp2_with fail
                  refine HLB.out.mono ?_
                  rintro e w8 ⟨rfl, hb⟩
                  have HS8 := Lib.hid (HS6.out.below hb)
                  clear hb HLB HSL6
                  have CW : Hid (Calls Tryz.prog 22 #[.pointer (some ⟨r, 0, none⟩), .agg #[.int .i64 1, .int .i64 s1, .int .i64 s2, .int .i64 s3, .int .i64 s4, .int .i64 s5, .int .i64 s6, .int .i64 s7]] w8 fun e w' => e = .returned (.int .i64 er) ∧ ∃ R', Sep B w0 w' (rv3 r R' Y (blkOb b3 26 #[.int .i64 s1, .int .i64 s2, .int .i64 s3, .int .i64 s4, .int .i64 s5, .int .i64 s6, .int .i64 s7] :: os))) := by
                    have := sep_rwrite HS8.out HOKX.out hops ⟨1, (⟨s1, s2, s3, s4, s5, s6, s7⟩ : Cf)⟩ (bk_wf (⟨s1, s2, s3, s4, s5, s6, s7⟩ : Cf) HWF.out 1 (by omega))
                    rw [HW1.out] at this
                    exact this
                  go_wp2_with (first | (refine wpList_load_row rfl 26 _ rfl b3 rfl 26 #[.int .i64 s1, .int .i64 s2, .int .i64 s3, .int .i64 s4, .int .i64 s5, .int .i64 s6, .int .i64 s7] (0, 0) _ (show Blk _ b3 26 #[.int .i64 s1, .int .i64 s2, .int .i64 s3, .int .i64 s4, .int .i64 s5, .int .i64 s6, .int .i64 s7] from rv_get HS8.out) Tryz.underlying26 rfl (by kernel_rfl) ?_) | (refine wpList_buildC rfl 57 _ _ _ _ rfl _ _ rfl rfl _ (rbuilt _ _ _ _ _ _ _ _) ?_))
                  refine CW.out.mono ?_
                  rintro e w9 ⟨rfl, R1, hs⟩
                  have HS9 := Lib.hid hs
                  clear hs CW
                  go_wp2_with fail
                  go_ret
                  rw [HX.out]
                  exact ⟨rfl, R1, rv_drop HS9.out⟩
    · as_aux_lemma =>
        have hsb : (s1 == (X.n : Int)) = false := by rw [beq_eq_false_iff_ne]; exact hsl
        have HX : Hid (beginX X (⟨s1, s2, s3, s4, s5, s6, s7⟩ : Cf) = (2, X)) := by
          show _ = _
          unfold beginX
          rw [if_pos (by simp [hsl])]
        clear hok hsl HOK
        go_enter Tryz.func19, Tryz.ntmps19
        go_wp2_with fail
        rw [← hb3, ← hW1]
        clear hW1 hb3
        refine (HSL.out _ sta1).mono ?_
        rintro e w1 ⟨rfl, rfl⟩
        have sta2 : STA W1.drew := by rw [HST.out]; exact HS1.out.drew
        obtain ⟨q0, q1, q2, q3, q4, q5, q6⟩ := HCE.out _ sta1
        clear sta1
        go_wp2_with fail
        go_region_held3 (fun X' => X'.cell? ⟨b3, 0, none⟩ = some (.int .i64 s1) ∧ X'.cell? ⟨b3, 1, none⟩ = some (.int .i64 s2) ∧ X'.cell? ⟨b3, 2, none⟩ = some (.int .i64 s3) ∧ X'.cell? ⟨b3, 3, none⟩ = some (.int .i64 s4) ∧ X'.cell? ⟨b3, 4, none⟩ = some (.int .i64 s5) ∧ X'.cell? ⟨b3, 5, none⟩ = some (.int .i64 s6) ∧ X'.cell? ⟨b3, 6, none⟩ = some (.int .i64 s7)) ((repeat' apply And.intro) <;> first | assumption | go_keep)
          (first
            | (go_at_call 59; refine (HCK.out _ (by assumption)).mono ?_; rintro e x4 ⟨rfl, hs4⟩; obtain ⟨e0, e1, e2, e3, e4, e5, e6⟩ := HCE.out _ hs4)
            | (go_at_call 58; refine (HSL.out _ (by assumption)).mono ?_; rintro e x5 ⟨rfl, rfl⟩))
        all_goals
          have hs5 := hs4
          rw [HST.out] at hs4
          have HS4 := Lib.hid hs4
          clear hs4 q0 q1 q2 q3 q4 q5 q6
          go_wp2_with fail
          go_ret
          rw [HX.out]
          exact ⟨rfl, R, rv_drop HS4.out⟩
  · as_aux_lemma =>
      have HOK := Lib.hid (okN_no hok)
      rw [HOK.out] at HCK
      have HX : Hid (beginX X (⟨s1, s2, s3, s4, s5, s6, s7⟩ : Cf) = (2, X)) := by
        show _ = _
        unfold beginX
        rw [if_pos (by simp [hok])]
      clear hok HOK
      go_enter Tryz.func19, Tryz.ntmps19
      go_wp2_with fail
      rw [← hb3, ← hW1]
      clear hW1 hb3
      refine (HSL.out _ sta1).mono ?_
      rintro e w1 ⟨rfl, rfl⟩
      have sta2 : STA W1.drew := by rw [HST.out]; exact HS1.out.drew
      obtain ⟨q0, q1, q2, q3, q4, q5, q6⟩ := HCE.out _ sta1
      clear sta1
      go_wp2_with fail
      first
        | (go_region_with (first
            | (go_at_call 59; refine (HCK.out _ (by assumption)).mono ?_; rintro e x4 ⟨rfl, hs4⟩; obtain ⟨e0, e1, e2, e3, e4, e5, e6⟩ := HCE.out _ hs4)))
        | fail
      all_goals
        have hs5 := hs4
        rw [HST.out] at hs4
        have HS4 := Lib.hid hs4
        clear hs4 q0 q1 q2 q3 q4 q5 q6
        go_wp2_with fail
        go_ret
        rw [HX.out]
        exact ⟨rfl, R, rv_drop HS4.out⟩
theorem sep_rbegin (h : Sep B w0 w (rv3 r R X os)) (hX : X.Ok) (hops : X.ops < 4611686018427370000) (c : Cf) (hc : c.wf) :
    Calls Tryz.prog 19 #[.pointer (some ⟨r, 0, none⟩), .agg #[.int .i64 c.slots, .int .i64 c.size, .int .i64 c.reserve, .int .i64 c.work, .int .i64 c.key, .int .i64 c.value, .int .i64 c.policy]] w fun e w' => e = .returned (.int .i64 (beginX X c).1) ∧ ∃ R', Sep B w0 w' (rv3 r R' (beginX X c).2 os) := by
  obtain ⟨s1, s2, s3, s4, s5, s6, s7⟩ := c
  exact sep_rbegin_l h hX hops s1 s2 s3 s4 s5 s6 s7 hc
end
end Go.Proofs.YtnopljanpjmbgaaGreat
namespace Go.Proofs.YtnopljanpjmbgaaGreat
open Go.RowKit Drum
set_option linter.unusedVariables false
theorem adv_read (X : DevD) (p : Int) (hp : p = 1 ∨ p = 2) : advX X p = if (readX X).1 ≠ 0 then ((readX X).1, bk0, X) else
    if (nextOf (readX X).2.2 p).1 ≠ 0 then ((nextOf (readX X).2.2 p).1, bk0, X) else
      if (writeX X (nextOf (readX X).2.2 p).2).1 ≠ 0 then ((writeX X (nextOf (readX X).2.2 p).2).1, bk0, (writeX X (nextOf (readX X).2.2 p).2).2) else (0, (nextOf (readX X).2.2 p).2, (writeX X (nextOf (readX X).2.2 p).2).2) := by
  unfold advX
  rw [if_neg (fun e => e hp)]
  by_cases hd : X.down = true
  · have hr : readX X = (13, 0, bk0) := if_pos hd
    rw [if_pos hd, hr, if_pos (by decide)]
  · rw [if_neg hd]
section
variable {B : Nat} {w0 w w' : World} {os : List Ob} {r : Nat} {R : RLay} {X : DevD}
set_option maxRecDepth 100000 in
set_option maxHeartbeats 8000000 in
theorem sep_radv (h : Sep B w0 w (rv3 r R X os)) (hX : X.Ok) (hops : X.ops < 4611686018427380000) (p : Int) :
    Calls Tryz.prog 20 #[.pointer (some ⟨r, 0, none⟩), .int .i64 p] w fun e w' => e = .returned (.tuple #[.agg (bkv (advX X p).2.1), .int .i64 (advX X p).1]) ∧ ∃ R', Sep B w0 w' (rv3 r R' (advX X p).2.2 os) := by
  obtain ⟨b4, hb4⟩ : ∃ b4, b4 = w.heap.size := ⟨_, rfl⟩
  obtain ⟨W1, hW1⟩ : ∃ W1 : World, W1 = w.alloc (.cells #[.int .i64 0, .int .i64 0, .int .i64 0, .int .i64 0, .int .i64 0, .int .i64 0, .int .i64 0, .int .i64 0] 57) := ⟨_, rfl⟩
  have HS1 : Hid (Sep B w0 W1 (blkOb b4 57 (bkv bk0) :: rv3 r R X os)) := by
    show Sep _ _ _ _
    rw [hW1]
    exact h.newBlk b4 _ _ hb4
  have hd := (rv_in HS1.out).rd hX
  have HSL := Lib.hid (rd_slots hd)
  have HRD0 := Lib.hid (rread_dual hd)
  have hn2 := hX.n2
  have hz : ((X.n : Int) == 0) = false := by simp; omega
  have HOKX := Lib.hid hX
  have HRW := Lib.hid (read_wf X)
  clear hd h hX hn2
  by_cases hp : p = 1 ∨ p = 2
  · rcases hp with rfl | rfl
    · as_aux_lemma =>
        have HX1 := Lib.hid (adv_read X 1 (by omega))
        obtain ⟨re, ri, rb, hre⟩ : ∃ re ri rb, readX X = (re, ri, rb) := ⟨_, _, _, rfl⟩
        rw [hre] at HX1 HRW HRD0
        have HRD : Hid (Calls Tryz.prog 62 #[.pointer (some ⟨r, 0, none⟩)] W1 fun e w' => e = .returned (.tuple #[.agg #[.int .i64 rb.epoch, .int .i64 rb.conf.slots, .int .i64 rb.conf.size, .int .i64 rb.conf.reserve, .int .i64 rb.conf.work, .int .i64 rb.conf.key, .int .i64 rb.conf.value, .int .i64 rb.conf.policy], .int .i64 (ri : Int), .int .i64 re]) ∧ Below W1.heap.size W1 w') := HRD0.out
        clear hre HRD0
        go_enter Tryz.func20, Tryz.ntmps20
        go_wp2_with fail
        rw [← hb4, ← hW1]
        clear hW1 hb4
        refine HSL.out.mono ?_
        rintro e w1 ⟨rfl, rfl⟩
        go_wp2_with fail
        refine HRD.out.mono ?_
        rintro e w2 ⟨rfl, hb⟩
        obtain ⟨b6, hb6⟩ : ∃ b6, b6 = w2.heap.size := ⟨_, rfl⟩
        obtain ⟨W3, hW3⟩ : ∃ W3 : World, W3 = w2.alloc (.cells #[.int .i64 rb.epoch, .int .i64 rb.conf.slots, .int .i64 rb.conf.size, .int .i64 rb.conf.reserve, .int .i64 rb.conf.work, .int .i64 rb.conf.key, .int .i64 rb.conf.value, .int .i64 rb.conf.policy] 57) := ⟨_, rfl⟩
        have HS3 : Hid (Sep B w0 W3 (blkOb b4 57 (bkv bk0) :: rv3 r R X os)) := by
          show Sep _ _ _ _
          rw [hW3]
          exact (HS1.out.below hb).alloc _
        have HB6 : Hid (Blk W3 b6 57 #[.int .i64 rb.epoch, .int .i64 rb.conf.slots, .int .i64 rb.conf.size, .int .i64 rb.conf.reserve, .int .i64 rb.conf.work, .int .i64 rb.conf.key, .int .i64 rb.conf.value, .int .i64 rb.conf.policy]) := by show Blk _ _ _ _; rw [hW3, hb6]; exact Blk.new _ _ _
        clear hb HRD
        by_cases hre : re = 0
        · subst hre
          have HX2 := Lib.hid (HX1.out.trans (if_neg (by simp)))
          obtain ⟨ne, nb, hne⟩ : ∃ ne nb, nextOf rb 1 = (ne, nb) := ⟨_, _, rfl⟩
          have hnw := next_wf rb 1
          have NX : Hid (Calls Tryz.prog 63 #[.agg #[.int .i64 rb.epoch, .int .i64 rb.conf.slots, .int .i64 rb.conf.size, .int .i64 rb.conf.reserve, .int .i64 rb.conf.work, .int .i64 rb.conf.key, .int .i64 rb.conf.value, .int .i64 rb.conf.policy], .int .i64 1] W3 fun ed w' => ed = .returned (.tuple #[.agg #[.int .i64 nb.epoch, .int .i64 nb.conf.slots, .int .i64 nb.conf.size, .int .i64 nb.conf.reserve, .int .i64 nb.conf.work, .int .i64 nb.conf.key, .int .i64 nb.conf.value, .int .i64 nb.conf.policy], .int .i64 ne]) ∧ Below W3.heap.size W3 w') := by
            have := refNext_any rb HRW.out 1 W3
            rw [hne] at this
            exact this
          have HX2 : Hid (advX X 1 = if ne ≠ 0 then (ne, bk0, X) else if (writeX X nb).1 ≠ 0 then ((writeX X nb).1, bk0, (writeX X nb).2) else (0, nb, (writeX X nb).2)) := by
            have := HX2.out
            rw [show nextOf (0, ri, rb).2.2 1 = (ne, nb) from hne] at this
            exact this
          rw [hne] at hnw
          have HNW := Lib.hid hnw
          have kk := HB6.out
          have q0 : W3.cell? ⟨b6, 0, none⟩ = some (.int .i64 rb.epoch) := kk.cell 0
          have q1 : W3.cell? ⟨b6, 1, none⟩ = some (.int .i64 rb.conf.slots) := kk.cell 1
          have q2 : W3.cell? ⟨b6, 2, none⟩ = some (.int .i64 rb.conf.size) := kk.cell 2
          have q3 : W3.cell? ⟨b6, 3, none⟩ = some (.int .i64 rb.conf.reserve) := kk.cell 3
          have q4 : W3.cell? ⟨b6, 4, none⟩ = some (.int .i64 rb.conf.work) := kk.cell 4
          have q5 : W3.cell? ⟨b6, 5, none⟩ = some (.int .i64 rb.conf.key) := kk.cell 5
          have q6 : W3.cell? ⟨b6, 6, none⟩ = some (.int .i64 rb.conf.value) := kk.cell 6
          have q7 : W3.cell? ⟨b6, 7, none⟩ = some (.int .i64 rb.conf.policy) := kk.cell 7
          clear hnw hne kk HX1
          go_upto_region 6 with fail
          rw [← hb6, ← hW3]
          clear hb6 hW3
          go_wp2_with fail
          refine NX.out.mono ?_
          rintro e w4 ⟨rfl, hb⟩
          obtain ⟨b9, hb9⟩ : ∃ b9, b9 = w4.heap.size := ⟨_, rfl⟩
          obtain ⟨W5, hW5⟩ : ∃ W5 : World, W5 = w4.alloc (.cells #[.int .i64 nb.epoch, .int .i64 nb.conf.slots, .int .i64 nb.conf.size, .int .i64 nb.conf.reserve, .int .i64 nb.conf.work, .int .i64 nb.conf.key, .int .i64 nb.conf.value, .int .i64 nb.conf.policy] 57) := ⟨_, rfl⟩
          have HS5 : Hid (Sep B w0 W5 (blkOb b9 57 #[.int .i64 nb.epoch, .int .i64 nb.conf.slots, .int .i64 nb.conf.size, .int .i64 nb.conf.reserve, .int .i64 nb.conf.work, .int .i64 nb.conf.key, .int .i64 nb.conf.value, .int .i64 nb.conf.policy] :: blkOb b4 57 (bkv bk0) :: rv3 r R X os)) := by
            show Sep _ _ _ _
            rw [hW5]
            exact (HS3.out.below hb).newBlk b9 _ _ hb9
          clear hb NX q0 q1 q2 q3 q4 q5 q6 q7
          by_cases hne : ne = 0
          · subst hne
            have HX3 := Lib.hid (HX2.out.trans (if_neg (by simp)))
            have HS6 : Hid (Sep B w0 W5 (rv3 r R X (blkOb b9 57 #[.int .i64 nb.epoch, .int .i64 nb.conf.slots, .int .i64 nb.conf.size, .int .i64 nb.conf.reserve, .int .i64 nb.conf.work, .int .i64 nb.conf.key, .int .i64 nb.conf.value, .int .i64 nb.conf.policy] :: blkOb b4 57 (bkv bk0) :: os))) := HS5.out.perm (List.perm_append_comm (l₁ := [_, _]) (l₂ := [_, _, _]) |>.append_right os)
            have HWR := Lib.hid (sep_rwrite HS6.out HOKX.out (by omega) nb HNW.out)
            have kk : Blk W5 b9 57 #[.int .i64 nb.epoch, .int .i64 nb.conf.slots, .int .i64 nb.conf.size, .int .i64 nb.conf.reserve, .int .i64 nb.conf.work, .int .i64 nb.conf.key, .int .i64 nb.conf.value, .int .i64 nb.conf.policy] := HS5.out.get (.head _)
            have q0 : W5.cell? ⟨b9, 0, none⟩ = some (.int .i64 nb.epoch) := kk.cell 0
            have q1 : W5.cell? ⟨b9, 1, none⟩ = some (.int .i64 nb.conf.slots) := kk.cell 1
            have q2 : W5.cell? ⟨b9, 2, none⟩ = some (.int .i64 nb.conf.size) := kk.cell 2
            have q3 : W5.cell? ⟨b9, 3, none⟩ = some (.int .i64 nb.conf.reserve) := kk.cell 3
            have q4 : W5.cell? ⟨b9, 4, none⟩ = some (.int .i64 nb.conf.work) := kk.cell 4
            have q5 : W5.cell? ⟨b9, 5, none⟩ = some (.int .i64 nb.conf.key) := kk.cell 5
            have q6 : W5.cell? ⟨b9, 6, none⟩ = some (.int .i64 nb.conf.value) := kk.cell 6
            have q7 : W5.cell? ⟨b9, 7, none⟩ = some (.int .i64 nb.conf.policy) := kk.cell 7
            generalize hee : (writeX X nb).1 = er at HWR HX3
            generalize hxx : (writeX X nb).2 = Zx at HWR HX3
            clear kk hee hxx HX2
            go_upto_region 9 with fail
            rw [← hb9, ← hW5]
            clear hb9 hW5
            go_wp2_with fail
            refine HWR.out.mono ?_
            rintro e w6 ⟨rfl, R2, hs⟩
            have HS7 : Hid (Sep B w0 w6 (blkOb b4 57 (bkv bk0) :: rv3 r R2 Zx os)) := (rv_out (rv_drop hs))
            have hk : Blk w6 b9 57 #[.int .i64 nb.epoch, .int .i64 nb.conf.slots, .int .i64 nb.conf.size, .int .i64 nb.conf.reserve, .int .i64 nb.conf.work, .int .i64 nb.conf.key, .int .i64 nb.conf.value, .int .i64 nb.conf.policy] := rv_get hs
            have HK := Lib.hid hk
            clear hs q0 q1 q2 q3 q4 q5 q6 q7 hk HWR
            by_cases her : er = 0
            · subst her
              have HX := Lib.hid (HX3.out.trans (if_neg (by simp)))
              go_wp2_with (first
                | (refine wpList_load_row rfl 57 _ rfl b9 rfl 57 (bkv nb) (0, 0) _ HK.out Tryz.underlying57 rfl rbk_size ?_)
                | (refine wpList_store_row rfl 57 _ _ rfl b4 (bkv nb) rfl rfl 57 (bkv bk0) (show Blk _ b4 57 (bkv bk0) from HS7.out.get (.head _)) rbk_size rfl (bkv_one _) ?_))
              have hz := HS7.out.setRowBlk (bkv nb)
              refine bodyPost_ret (results_blk_tmp rfl _ _ b4 57 (bkv nb) _ rfl (show Blk _ b4 57 (bkv nb) from hz.get (.head _)) Tryz.underlying57 rfl rbk_size) rfl ?_
              rw [HX.out]
              exact ⟨rfl, R2, hz.sub (.cons _ (List.Sublist.refl _))⟩
            · have HX := Lib.hid (HX3.out.trans (if_pos her))
              have hb0 : (er == 0) = false := by rw [beq_eq_false_iff_ne]; exact her
              clear her
              go_wp2_with (refine wpList_store_row rfl 57 _ _ rfl b4 (bkv bk0) rfl rfl 57 (bkv bk0) (show Blk _ b4 57 (bkv bk0) from HS7.out.get (.head _)) rbk_size rfl (bkv_one _) ?_)
              have hz := HS7.out.setRowBlk (bkv bk0)
              refine bodyPost_ret (results_blk_tmp rfl _ _ b4 57 (bkv bk0) _ rfl (show Blk _ b4 57 (bkv bk0) from hz.get (.head _)) Tryz.underlying57 rfl rbk_size) rfl ?_
              rw [HX.out]
              exact ⟨rfl, R2, hz.sub (.cons _ (List.Sublist.refl _))⟩
          · have HX := Lib.hid (HX2.out.trans (if_pos hne))
            have hb0 : (ne == 0) = false := by rw [beq_eq_false_iff_ne]; exact hne
            have HS5b : Hid (Sep B w0 W5 (blkOb b4 57 (bkv bk0) :: rv3 r R X os)) := HS5.out.sub (.cons _ (List.Sublist.refl _))
            clear hne
            go_upto_region 9 with fail
            rw [← hb9, ← hW5]
            clear hb9 hW5
            go_wp2_with (refine wpList_store_row rfl 57 _ _ rfl b4 (bkv bk0) rfl rfl 57 (bkv bk0) (show Blk _ b4 57 (bkv bk0) from HS5b.out.get (.head _)) rbk_size rfl (bkv_one _) ?_)
            have hz := HS5b.out.setRowBlk (bkv bk0)
            refine bodyPost_ret (results_blk_tmp rfl _ _ b4 57 (bkv bk0) _ rfl (show Blk _ b4 57 (bkv bk0) from hz.get (.head _)) Tryz.underlying57 rfl rbk_size) rfl ?_
            rw [HX.out]
            exact ⟨rfl, R, hz.sub (.cons _ (List.Sublist.refl _))⟩
        · have HX := Lib.hid (HX1.out.trans (if_pos hre))
          have hb0 : (re == 0) = false := by rw [beq_eq_false_iff_ne]; exact hre
          clear hre
          go_upto_region 6 with fail
          rw [← hb6, ← hW3]
          clear hb6 hW3
          go_wp2_with (refine wpList_store_row rfl 57 _ _ rfl b4 (bkv bk0) rfl rfl 57 (bkv bk0) (show Blk _ b4 57 (bkv bk0) from HS3.out.get (.head _)) rbk_size rfl (bkv_one _) ?_)
          have hz := HS3.out.setRowBlk (bkv bk0)
          refine bodyPost_ret (results_blk_tmp rfl _ _ b4 57 (bkv bk0) _ rfl (show Blk _ b4 57 (bkv bk0) from hz.get (.head _)) Tryz.underlying57 rfl rbk_size) rfl ?_
          rw [HX.out]
          exact ⟨rfl, R, hz.sub (.cons _ (List.Sublist.refl _))⟩
    · as_aux_lemma =>
        have HX1 := Lib.hid (adv_read X 2 (by omega))
        obtain ⟨re, ri, rb, hre⟩ : ∃ re ri rb, readX X = (re, ri, rb) := ⟨_, _, _, rfl⟩
        rw [hre] at HX1 HRW HRD0
        have HRD : Hid (Calls Tryz.prog 62 #[.pointer (some ⟨r, 0, none⟩)] W1 fun e w' => e = .returned (.tuple #[.agg #[.int .i64 rb.epoch, .int .i64 rb.conf.slots, .int .i64 rb.conf.size, .int .i64 rb.conf.reserve, .int .i64 rb.conf.work, .int .i64 rb.conf.key, .int .i64 rb.conf.value, .int .i64 rb.conf.policy], .int .i64 (ri : Int), .int .i64 re]) ∧ Below W1.heap.size W1 w') := HRD0.out
        clear hre HRD0
        go_enter Tryz.func20, Tryz.ntmps20
        go_wp2_with fail
        rw [← hb4, ← hW1]
        clear hW1 hb4
        refine HSL.out.mono ?_
        rintro e w1 ⟨rfl, rfl⟩
        go_wp2_with fail
        refine HRD.out.mono ?_
        rintro e w2 ⟨rfl, hb⟩
        obtain ⟨b6, hb6⟩ : ∃ b6, b6 = w2.heap.size := ⟨_, rfl⟩
        obtain ⟨W3, hW3⟩ : ∃ W3 : World, W3 = w2.alloc (.cells #[.int .i64 rb.epoch, .int .i64 rb.conf.slots, .int .i64 rb.conf.size, .int .i64 rb.conf.reserve, .int .i64 rb.conf.work, .int .i64 rb.conf.key, .int .i64 rb.conf.value, .int .i64 rb.conf.policy] 57) := ⟨_, rfl⟩
        have HS3 : Hid (Sep B w0 W3 (blkOb b4 57 (bkv bk0) :: rv3 r R X os)) := by
          show Sep _ _ _ _
          rw [hW3]
          exact (HS1.out.below hb).alloc _
        have HB6 : Hid (Blk W3 b6 57 #[.int .i64 rb.epoch, .int .i64 rb.conf.slots, .int .i64 rb.conf.size, .int .i64 rb.conf.reserve, .int .i64 rb.conf.work, .int .i64 rb.conf.key, .int .i64 rb.conf.value, .int .i64 rb.conf.policy]) := by show Blk _ _ _ _; rw [hW3, hb6]; exact Blk.new _ _ _
        clear hb HRD
        by_cases hre : re = 0
        · subst hre
          have HX2 := Lib.hid (HX1.out.trans (if_neg (by simp)))
          obtain ⟨ne, nb, hne⟩ : ∃ ne nb, nextOf rb 2 = (ne, nb) := ⟨_, _, rfl⟩
          have hnw := next_wf rb 2
          have NX : Hid (Calls Tryz.prog 63 #[.agg #[.int .i64 rb.epoch, .int .i64 rb.conf.slots, .int .i64 rb.conf.size, .int .i64 rb.conf.reserve, .int .i64 rb.conf.work, .int .i64 rb.conf.key, .int .i64 rb.conf.value, .int .i64 rb.conf.policy], .int .i64 2] W3 fun ed w' => ed = .returned (.tuple #[.agg #[.int .i64 nb.epoch, .int .i64 nb.conf.slots, .int .i64 nb.conf.size, .int .i64 nb.conf.reserve, .int .i64 nb.conf.work, .int .i64 nb.conf.key, .int .i64 nb.conf.value, .int .i64 nb.conf.policy], .int .i64 ne]) ∧ Below W3.heap.size W3 w') := by
            have := refNext_any rb HRW.out 2 W3
            rw [hne] at this
            exact this
          have HX2 : Hid (advX X 2 = if ne ≠ 0 then (ne, bk0, X) else if (writeX X nb).1 ≠ 0 then ((writeX X nb).1, bk0, (writeX X nb).2) else (0, nb, (writeX X nb).2)) := by
            have := HX2.out
            rw [show nextOf (0, ri, rb).2.2 2 = (ne, nb) from hne] at this
            exact this
          rw [hne] at hnw
          have HNW := Lib.hid hnw
          have kk := HB6.out
          have q0 : W3.cell? ⟨b6, 0, none⟩ = some (.int .i64 rb.epoch) := kk.cell 0
          have q1 : W3.cell? ⟨b6, 1, none⟩ = some (.int .i64 rb.conf.slots) := kk.cell 1
          have q2 : W3.cell? ⟨b6, 2, none⟩ = some (.int .i64 rb.conf.size) := kk.cell 2
          have q3 : W3.cell? ⟨b6, 3, none⟩ = some (.int .i64 rb.conf.reserve) := kk.cell 3
          have q4 : W3.cell? ⟨b6, 4, none⟩ = some (.int .i64 rb.conf.work) := kk.cell 4
          have q5 : W3.cell? ⟨b6, 5, none⟩ = some (.int .i64 rb.conf.key) := kk.cell 5
          have q6 : W3.cell? ⟨b6, 6, none⟩ = some (.int .i64 rb.conf.value) := kk.cell 6
          have q7 : W3.cell? ⟨b6, 7, none⟩ = some (.int .i64 rb.conf.policy) := kk.cell 7
          clear hnw hne kk HX1
          go_upto_region 6 with fail
          rw [← hb6, ← hW3]
          clear hb6 hW3
          go_wp2_with fail
          refine NX.out.mono ?_
          rintro e w4 ⟨rfl, hb⟩
          obtain ⟨b9, hb9⟩ : ∃ b9, b9 = w4.heap.size := ⟨_, rfl⟩
          obtain ⟨W5, hW5⟩ : ∃ W5 : World, W5 = w4.alloc (.cells #[.int .i64 nb.epoch, .int .i64 nb.conf.slots, .int .i64 nb.conf.size, .int .i64 nb.conf.reserve, .int .i64 nb.conf.work, .int .i64 nb.conf.key, .int .i64 nb.conf.value, .int .i64 nb.conf.policy] 57) := ⟨_, rfl⟩
          have HS5 : Hid (Sep B w0 W5 (blkOb b9 57 #[.int .i64 nb.epoch, .int .i64 nb.conf.slots, .int .i64 nb.conf.size, .int .i64 nb.conf.reserve, .int .i64 nb.conf.work, .int .i64 nb.conf.key, .int .i64 nb.conf.value, .int .i64 nb.conf.policy] :: blkOb b4 57 (bkv bk0) :: rv3 r R X os)) := by
            show Sep _ _ _ _
            rw [hW5]
            exact (HS3.out.below hb).newBlk b9 _ _ hb9
          clear hb NX q0 q1 q2 q3 q4 q5 q6 q7
          by_cases hne : ne = 0
          · subst hne
            have HX3 := Lib.hid (HX2.out.trans (if_neg (by simp)))
            have HS6 : Hid (Sep B w0 W5 (rv3 r R X (blkOb b9 57 #[.int .i64 nb.epoch, .int .i64 nb.conf.slots, .int .i64 nb.conf.size, .int .i64 nb.conf.reserve, .int .i64 nb.conf.work, .int .i64 nb.conf.key, .int .i64 nb.conf.value, .int .i64 nb.conf.policy] :: blkOb b4 57 (bkv bk0) :: os))) := HS5.out.perm (List.perm_append_comm (l₁ := [_, _]) (l₂ := [_, _, _]) |>.append_right os)
            have HWR := Lib.hid (sep_rwrite HS6.out HOKX.out (by omega) nb HNW.out)
            have kk : Blk W5 b9 57 #[.int .i64 nb.epoch, .int .i64 nb.conf.slots, .int .i64 nb.conf.size, .int .i64 nb.conf.reserve, .int .i64 nb.conf.work, .int .i64 nb.conf.key, .int .i64 nb.conf.value, .int .i64 nb.conf.policy] := HS5.out.get (.head _)
            have q0 : W5.cell? ⟨b9, 0, none⟩ = some (.int .i64 nb.epoch) := kk.cell 0
            have q1 : W5.cell? ⟨b9, 1, none⟩ = some (.int .i64 nb.conf.slots) := kk.cell 1
            have q2 : W5.cell? ⟨b9, 2, none⟩ = some (.int .i64 nb.conf.size) := kk.cell 2
            have q3 : W5.cell? ⟨b9, 3, none⟩ = some (.int .i64 nb.conf.reserve) := kk.cell 3
            have q4 : W5.cell? ⟨b9, 4, none⟩ = some (.int .i64 nb.conf.work) := kk.cell 4
            have q5 : W5.cell? ⟨b9, 5, none⟩ = some (.int .i64 nb.conf.key) := kk.cell 5
            have q6 : W5.cell? ⟨b9, 6, none⟩ = some (.int .i64 nb.conf.value) := kk.cell 6
            have q7 : W5.cell? ⟨b9, 7, none⟩ = some (.int .i64 nb.conf.policy) := kk.cell 7
            generalize hee : (writeX X nb).1 = er at HWR HX3
            generalize hxx : (writeX X nb).2 = Zx at HWR HX3
            clear kk hee hxx HX2
            go_upto_region 9 with fail
            rw [← hb9, ← hW5]
            clear hb9 hW5
            go_wp2_with fail
            refine HWR.out.mono ?_
            rintro e w6 ⟨rfl, R2, hs⟩
            have HS7 : Hid (Sep B w0 w6 (blkOb b4 57 (bkv bk0) :: rv3 r R2 Zx os)) := (rv_out (rv_drop hs))
            have hk : Blk w6 b9 57 #[.int .i64 nb.epoch, .int .i64 nb.conf.slots, .int .i64 nb.conf.size, .int .i64 nb.conf.reserve, .int .i64 nb.conf.work, .int .i64 nb.conf.key, .int .i64 nb.conf.value, .int .i64 nb.conf.policy] := rv_get hs
            have HK := Lib.hid hk
            clear hs q0 q1 q2 q3 q4 q5 q6 q7 hk HWR
            by_cases her : er = 0
            · subst her
              have HX := Lib.hid (HX3.out.trans (if_neg (by simp)))
              go_wp2_with (first
                | (refine wpList_load_row rfl 57 _ rfl b9 rfl 57 (bkv nb) (0, 0) _ HK.out Tryz.underlying57 rfl rbk_size ?_)
                | (refine wpList_store_row rfl 57 _ _ rfl b4 (bkv nb) rfl rfl 57 (bkv bk0) (show Blk _ b4 57 (bkv bk0) from HS7.out.get (.head _)) rbk_size rfl (bkv_one _) ?_))
              have hz := HS7.out.setRowBlk (bkv nb)
              refine bodyPost_ret (results_blk_tmp rfl _ _ b4 57 (bkv nb) _ rfl (show Blk _ b4 57 (bkv nb) from hz.get (.head _)) Tryz.underlying57 rfl rbk_size) rfl ?_
              rw [HX.out]
              exact ⟨rfl, R2, hz.sub (.cons _ (List.Sublist.refl _))⟩
            · have HX := Lib.hid (HX3.out.trans (if_pos her))
              have hb0 : (er == 0) = false := by rw [beq_eq_false_iff_ne]; exact her
              clear her
              go_wp2_with (refine wpList_store_row rfl 57 _ _ rfl b4 (bkv bk0) rfl rfl 57 (bkv bk0) (show Blk _ b4 57 (bkv bk0) from HS7.out.get (.head _)) rbk_size rfl (bkv_one _) ?_)
              have hz := HS7.out.setRowBlk (bkv bk0)
              refine bodyPost_ret (results_blk_tmp rfl _ _ b4 57 (bkv bk0) _ rfl (show Blk _ b4 57 (bkv bk0) from hz.get (.head _)) Tryz.underlying57 rfl rbk_size) rfl ?_
              rw [HX.out]
              exact ⟨rfl, R2, hz.sub (.cons _ (List.Sublist.refl _))⟩
          · have HX := Lib.hid (HX2.out.trans (if_pos hne))
            have hb0 : (ne == 0) = false := by rw [beq_eq_false_iff_ne]; exact hne
            have HS5b : Hid (Sep B w0 W5 (blkOb b4 57 (bkv bk0) :: rv3 r R X os)) := HS5.out.sub (.cons _ (List.Sublist.refl _))
            clear hne
            go_upto_region 9 with fail
            rw [← hb9, ← hW5]
            clear hb9 hW5
            go_wp2_with (refine wpList_store_row rfl 57 _ _ rfl b4 (bkv bk0) rfl rfl 57 (bkv bk0) (show Blk _ b4 57 (bkv bk0) from HS5b.out.get (.head _)) rbk_size rfl (bkv_one _) ?_)
            have hz := HS5b.out.setRowBlk (bkv bk0)
            refine bodyPost_ret (results_blk_tmp rfl _ _ b4 57 (bkv bk0) _ rfl (show Blk _ b4 57 (bkv bk0) from hz.get (.head _)) Tryz.underlying57 rfl rbk_size) rfl ?_
            rw [HX.out]
            exact ⟨rfl, R, hz.sub (.cons _ (List.Sublist.refl _))⟩
        · have HX := Lib.hid (HX1.out.trans (if_pos hre))
          have hb0 : (re == 0) = false := by rw [beq_eq_false_iff_ne]; exact hre
          clear hre
          go_upto_region 6 with fail
          rw [← hb6, ← hW3]
          clear hb6 hW3
          go_wp2_with (refine wpList_store_row rfl 57 _ _ rfl b4 (bkv bk0) rfl rfl 57 (bkv bk0) (show Blk _ b4 57 (bkv bk0) from HS3.out.get (.head _)) rbk_size rfl (bkv_one _) ?_)
          have hz := HS3.out.setRowBlk (bkv bk0)
          refine bodyPost_ret (results_blk_tmp rfl _ _ b4 57 (bkv bk0) _ rfl (show Blk _ b4 57 (bkv bk0) from hz.get (.head _)) Tryz.underlying57 rfl rbk_size) rfl ?_
          rw [HX.out]
          exact ⟨rfl, R, hz.sub (.cons _ (List.Sublist.refl _))⟩
  · as_aux_lemma =>
      have HX : Hid (advX X p = (2, bk0, X)) := if_pos hp
      have hp1 : ¬ p = 1 := fun e => hp (.inl e)
      have hp2 : ¬ p = 2 := fun e => hp (.inr e)
      have g1 : (p != 1) = true := by rw [bne_iff_ne]; exact hp1
      have g2 : (p != 2) = true := by rw [bne_iff_ne]; exact hp2
      clear hp
      go_enter Tryz.func20, Tryz.ntmps20
      go_wp2_with fail
      rw [← hb4, ← hW1]
      clear hW1 hb4
      refine HSL.out.mono ?_
      rintro e w1 ⟨rfl, rfl⟩
      go_wp2_with (refine wpList_store_row rfl 57 _ _ rfl b4 (bkv bk0) rfl rfl 57 (bkv bk0) (show Blk _ b4 57 (bkv bk0) from HS1.out.get (.head _)) rbk_size rfl (bkv_one _) ?_)
      have hz := HS1.out.setRowBlk (bkv bk0)
      refine bodyPost_ret (results_blk_tmp rfl _ _ b4 57 (bkv bk0) _ rfl (show Blk _ b4 57 (bkv bk0) from hz.get (.head _)) Tryz.underlying57 rfl rbk_size) rfl ?_
      rw [HX.out]
      exact ⟨rfl, R, hz.sub (.cons _ (List.Sublist.refl _))⟩
end
end Go.Proofs.YtnopljanpjmbgaaGreat

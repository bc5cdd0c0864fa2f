/-
  The walk of the slot set laws' filled: a set, and a list of truth values that says the same. Condition: the bytes can be read.
-/
import Derived.Test.YthmkaefpgcjlnaaDoorSetFill
namespace Go.Proofs.YthmkaefpgcjlnaaDoor
open Go.RowKit Go.Shelf
set_option linter.unusedVariables false
def bvOb (bi : Nat) (L : List Bool) : Ob := blkOb bi 4 (bvals L).toArray
theorem make_bools (k : Nat) (hk : k ≤ 65536) (W : World) : (Instr.makeSlice 25 (.int .i64 (k : Int)) (.int .i64 (k : Int))).run Tryd.prog W = .ok (.slice (some ⟨W.heap.size, 0, none⟩) k k) (W.alloc (.cells (bvals (List.replicate k false)).toArray 4)) := by
  rw [run_make_row' 25 4 (.bool false) 1 Tryd.underlying25 bool_info rfl .i64 .i64 k (by omega) (by omega)]
  have e : madeCells #[Value.bool false] k = (bvals (List.replicate k false)).toArray := by
    apply Array.toList_inj.1
    rw [toList_madeCells_one]
    simp [bvals]
  rw [e]
theorem bvals_set (L : List Bool) (k : Nat) (v : Bool) : (bvals L).toArray.setIfInBounds k (.bool v) = (bvals (L.set k v)).toArray := by
  simp [bvals, List.map_set]
theorem bv_reads {w : World} {bi : Nat} {L : List Bool} (h : (bvOb bi L).P w) (n : Nat) (hn : n = L.length) : Reads w w.heap.size 1 (some ⟨bi, 0, none⟩) n (bvals L) := by
  subst hn
  have h' : Blk w bi 4 (bvals L).toArray := h
  refine ⟨by rw [bvals_length]; omega, fun _ => ⟨_, rfl, Blk.lt h', fun j u hu => ?_⟩⟩
  rw [add_zero_addr, Blk.cell h']
  simpa using hu
set_option maxRecDepth 100000 in
set_option maxHeartbeats 4000000 in
theorem filled_any (sz : BitVec 8) (A : Option Addr) (m c : Nat) (l : List (BitVec 8)) (w : World) (hr : Reads w w.heap.size 1 A m (u8s l)) (hm : m ≤ 65536) :
    Calls Tryd.prog 13 #[.int .u8 (n8 sz), .slice A m c] w fun e w' => ∃ (g bi n : Nat) (L : List Bool), e = .returned (.tuple #[.pointer (some ⟨g, 0, none⟩), .slice (some ⟨bi, 0, none⟩) n n]) ∧ n = L.length ∧ 1 + n8 sz % 34 = (n : Int) ∧ Sep w.heap.size w w' [setOb g L, bvOb bi L] := by
  obtain ⟨n, hN⟩ : ∃ n : Nat, 1 + n8 sz % 34 = (n : Int) := ⟨(1 + n8 sz % 34).toNat, by have := n8_bd sz; omega⟩
  obtain ⟨hz1, hz2⟩ := n8_bd sz
  have hn1 : 1 ≤ n := by omega
  have hn2 : n ≤ 34 := by omega
  have hlen : l.length = m := by have := hr.1; rw [u8s_length] at this; omega
  have hmk := make_bools n (by omega)
  have HMK := Lib.hid hmk
  have HR := Lib.hid hr
  have HL := Lib.hid hlen
  have HN := Lib.hid hN
  clear hr hlen hmk
  go_enter Tryd.func13, Tryd.ntmps13
  go_wp2_with fail
  refine (new_set n _ hn1 hn2).mono ?_
  rintro e w1 ⟨rfl, hs, hb⟩
  have HS : Hid (Sep w.heap.size w w1 [setOb w.heap.size (List.replicate n false)]) := (Sep.start w).add (a := setOb w.heap.size (List.replicate n false)) hb hs (fun k hk => by have : k = w.heap.size := hk; omega)
  have hmk := HMK.out w1
  clear hs hb hN
  go_wp2_with fail
  have HS2 : Hid (Sep w.heap.size w (w1.alloc (.cells (bvals (List.replicate n false)).toArray 4)) [setOb w.heap.size (List.replicate n false), bvOb w1.heap.size (List.replicate n false)]) :=
    (HS.out.add (a := bvOb w1.heap.size (List.replicate n false)) ((Below.refl _ _).alloc (Nat.le_refl _) _) (Blk.new w1 _ _) (fun k hk => by have : k = w1.heap.size := hk; omega)).perm (List.Perm.swap _ _ _)
  clear hmk
  go_loopg [10, 11] m (fun q v10 v11 wr => ∃ (j : Nat) (L : List Bool), j + q = m ∧ v10 = .int .i64 j ∧ L.length = n ∧ Sep w.heap.size w wr [setOb w.heap.size L, bvOb w1.heap.size L])
  case atStart => exact ⟨0, _, by omega, rfl, by simp, HS2.out⟩
  case round =>
    obtain ⟨j, L, hj, rfl, hLn, hs⟩ := hrel
    have hj' : j ≤ m := by omega
    have HJ := Lib.hid hj
    have HS3 := Lib.hid hs
    have HLn := Lib.hid hLn
    by_cases hlt : j < m
    · have hjl : j < l.length := by rw [HL.out]; exact hlt
      obtain ⟨ad, u, rfl, hab, hx, hc⟩ := (HR.out.below hs.bel).at_ hlt
      rw [u8s_get hjl] at hx
      simp only [Option.some.injEq] at hx
      subst hx
      obtain ⟨b, hb⟩ : ∃ b, l[j] = b := ⟨_, rfl⟩
      rw [hb] at hc
      obtain ⟨hb1, hb2⟩ := n8_bd b
      obtain ⟨k, hk⟩ : ∃ k : Nat, n8 b % 128 % (n : Int) = (k : Int) := ⟨(n8 b % 128 % (n : Int)).toNat, by have := Int.emod_nonneg (n8 b % 128) (show (n : Int) ≠ 0 by omega); omega⟩
      have hkn : k < n := by have := Int.emod_lt_of_pos (n8 b % 128) (show (0 : Int) < (n : Int) by omega); omega
      clear hj hs hLn hb
      by_cases hlo : n8 b < 128
      · have d1 : decide (n8 b < 128) = true := by simpa using hlo
        go_wp2_with fail
        refine (add_of (show HasSet wr w.heap.size L from HS3.out.get (.head _)) k (by rw [HLn.out]; exact hkn)).mono ?_
        rintro e w2 ⟨rfl, hs2, hch⟩
        have HS4 : Hid (Sep w.heap.size w w2 [setOb w.heap.size (L.set k true), bvOb w1.heap.size L]) := HS3.out.step (a' := setOb w.heap.size (L.set k true)) hch hs2 (fun _ h => .inl h)
        have hbl : Blk w2 w1.heap.size 4 (bvals L).toArray := HS4.out.get (.tail _ (.head _))
        have hc2 : w2.cell? (ad.add j) = some (.int .u8 (n8 b)) := by rw [HS4.out.bel.cell (by rw [block_of_add]; exact hab), ← HS3.out.bel.cell (by rw [block_of_add]; exact hab)]; exact hc
        have hcb : w2.cell? ⟨w1.heap.size, k, none⟩ = some (.bool (inL L k)) := by rw [hbl.cell, List.getElem?_toArray, bvals_at (by rw [HLn.out]; exact hkn)]
        have hfb := hbl.frozen k
        have HS5 : Hid (Sep w.heap.size w (w2.setCell ⟨w1.heap.size, k, none⟩ (.bool true)) [setOb w.heap.size (L.set k true), bvOb w1.heap.size (L.set k true)]) := by
          refine HS4.out.step1 (a' := bvOb w1.heap.size (L.set k true)) (Chg.setCell (Chg.refl (bvOb w1.heap.size L).F w2) (p := ⟨w1.heap.size, k, none⟩) (.inl rfl) _) ?_ (fun _ h => .inl h)
          have := hbl.set_ k (.bool true)
          rw [bvals_set] at this
          exact this
        clear hs2 hch hbl hc
        go_wp2_with fail
        go_roundg (gk - 1)
        case measure => have := HJ.out; omega
        case rel => exact ⟨j + 1, _, by have := HJ.out; omega, by go_num, by rw [List.length_set]; exact HLn.out, HS5.out⟩
      · have d1 : decide (n8 b < 128) = false := by simpa using hlo
        go_wp2_with fail
        refine (remove_of (show HasSet wr w.heap.size L from HS3.out.get (.head _)) k (by rw [HLn.out]; exact hkn)).mono ?_
        rintro e w2 ⟨rfl, hs2, hch⟩
        have HS4 : Hid (Sep w.heap.size w w2 [setOb w.heap.size (L.set k false), bvOb w1.heap.size L]) := HS3.out.step (a' := setOb w.heap.size (L.set k false)) hch hs2 (fun _ h => .inl h)
        have hbl : Blk w2 w1.heap.size 4 (bvals L).toArray := HS4.out.get (.tail _ (.head _))
        have hc2 : w2.cell? (ad.add j) = some (.int .u8 (n8 b)) := by rw [HS4.out.bel.cell (by rw [block_of_add]; exact hab), ← HS3.out.bel.cell (by rw [block_of_add]; exact hab)]; exact hc
        have hcb : w2.cell? ⟨w1.heap.size, k, none⟩ = some (.bool (inL L k)) := by rw [hbl.cell, List.getElem?_toArray, bvals_at (by rw [HLn.out]; exact hkn)]
        have hfb := hbl.frozen k
        have HS5 : Hid (Sep w.heap.size w (w2.setCell ⟨w1.heap.size, k, none⟩ (.bool false)) [setOb w.heap.size (L.set k false), bvOb w1.heap.size (L.set k false)]) := by
          refine HS4.out.step1 (a' := bvOb w1.heap.size (L.set k false)) (Chg.setCell (Chg.refl (bvOb w1.heap.size L).F w2) (p := ⟨w1.heap.size, k, none⟩) (.inl rfl) _) ?_ (fun _ h => .inl h)
          have := hbl.set_ k (.bool false)
          rw [bvals_set] at this
          exact this
        clear hs2 hch hbl hc
        go_wp2_with fail
        go_roundg (gk - 1)
        case measure => have := HJ.out; omega
        case rel => exact ⟨j + 1, _, by have := HJ.out; omega, by go_num, by rw [List.length_set]; exact HLn.out, HS5.out⟩
    · have e8 : j = m := by omega
      subst e8
      clear hj hs hLn
      go_wp2
      go_ret2
      exact ⟨_, _, n, L, rfl, HLn.out.symm, HN.out, HS3.out⟩
end Go.Proofs.YthmkaefpgcjlnaaDoor

/-
  The walks of the image laws' helpers: Move.data, has, works. Conditions: the image is as the methods leave it.
-/
import Derived.Test.YtbblbeppiblndaaImgSt
namespace Go.Proofs.Ytbblbeppiblndaa
open Go.RowKit
set_option linter.unusedVariables false
set_option maxHeartbeats 1000000 in
theorem data_any (k n b : BitVec 8) (w : World) :
    Calls Try.prog 34 #[.agg #[.int .u8 (n8 k), .int .u8 (n8 n), .int .u8 (n8 b)]] w fun e w' => ∃ v, e = .returned v ∧ Own8 w' w.heap.size v (moveData n b) ∧ Below w.heap.size w w' := by
  obtain ⟨m, hm⟩ : ∃ m : Nat, n8 n % (40 : Int) = (m : Int) := ⟨n.toNat % 40, by rw [n8_nat]; omega⟩
  have hlen : (moveData n b).length = m := by rw [moveData_length]; rw [n8_nat] at hm; omega
  have hm40 : m < 40 := by rw [n8_nat] at hm; omega
  have hmk := make_bytes .u8 m (by omega)
  have hz : (u8s (zbytes m)).toArray = bTo (moveData n b) 0 := by rw [bTo_zero, hlen]
  rw [← hm, hz] at hmk
  have HM := Lib.hid hm
  have HL := Lib.hid hlen
  obtain ⟨hn1, hn2⟩ := n8_bd n
  obtain ⟨hb1, hb2⟩ := n8_bd b
  clear hm hlen hz
  go_enter Try.func34, Try.ntmps34
  go_wp2_with fail
  clear hmk
  go_loopg [11] m (fun q v11 wr => ∃ j : Nat, j + q = m ∧ v11 = .int .i64 j ∧ Blk wr (w.heap.size + 1) 5 (bTo (moveData n b) j) ∧ Blk wr w.heap.size 62 #[.int .u8 (n8 k), .int .u8 (n8 n), .int .u8 (n8 b)] ∧ Below w.heap.size w wr)
  case atStart =>
    refine ⟨0, by omega, rfl, ?_, (Blk.new w _ _).alloc _, by go_grown⟩
    have := Blk.new (w.alloc (.cells #[Value.int .u8 (n8 k), .int .u8 (n8 n), .int .u8 (n8 b)] 62)) 5 (bTo (moveData n b) 0)
    simpa using this
  case round =>
    obtain ⟨j, hj, rfl, hbl, hbm, hbel⟩ := hrel
    have hj' : j ≤ m := by omega
    have HJ := Lib.hid hj
    have HBL := Lib.hid hbl
    have HBM := Lib.hid hbm
    have HBE := Lib.hid hbel
    by_cases hlt : j < m
    · have hX : j < (moveData n b).length := by have := HL.out; omega
      have hcell := hbl.cell j
      rw [bTo_next _ j hX] at hcell
      have hfr := hbl.frozen j
      have hb2c : wr.cell? ⟨w.heap.size, 2, none⟩ = some (.int .u8 (n8 b)) := by rw [hbm.cell]; rfl
      have HE := Lib.hid (show (n8 b + (j : Int)) % (256 : Int) = n8 (moveData n b)[j] by rw [n8_add b j (by omega)]; simp [moveData])
      have HS := Lib.hid (bTo_set _ j hX)
      clear hj hbl hbm hbel
      go_wp2
      go_roundg (gk - 1)
      case measure => have := HJ.out; omega
      case rel =>
        refine ⟨j + 1, by have := HJ.out; omega, by go_num, ?_, HBM.out.far (by simp) _, HBE.out.setCell (by simp) _⟩
        rw [← HS.out, ← HE.out]; exact HBL.out.set_ j _
    · have e8 : j = m := by omega
      subst e8
      clear hj hbl hbm hbel
      go_wp2
      go_ret
      refine ⟨_, rfl, ?_, HBE.out⟩
      have hh := HBL.out
      have hl := HL.out
      refine ⟨by rw [u8s_length]; omega, .inr ⟨w.heap.size + 1, j, _, ?_, by omega, hh, by omega, by unfold maxLen; omega, ?_, ?_⟩⟩
      · rw [hl]; rfl
      · rw [← hl, bTo_all]; simp [u8s_length]
      · rw [← hl, bTo_all]
        simp only [Nat.mul_one]
        rw [List.take_of_length_le (by simp [u8s_length])]
set_option maxHeartbeats 1000000 in
theorem has_any {B : Nat} {w0 w : World} {g : Nat} {fb : Option Nat} {l : List (BitVec 8)} {size dur : Nat} {vs : List (Value × List (BitVec 8))} (h : St B w0 w g fb l size dur vs) {v : Value} (hv : Holds w v l) :
    Calls Try.prog 11 #[.pointer (some ⟨g, 0, none⟩), v] w fun e w' => e = .returned (.bool true) ∧ St B w0 w' g fb l size dur vs ∧ Below w.heap.size w w' := by
  obtain ⟨A, n, c, rfl, hn, hnc, hcm, hr⟩ := hv
  have HV : Hid (Holds w (.slice A n c) l) := ⟨A, n, c, rfl, hn, hnc, hcm, hr⟩
  have H := Lib.hid h
  have hnum := h.img.nums
  subst hn
  unfold maxLen at hcm
  clear h hr
  go_enter Try.func11, Try.ntmps11
  go_wp2_with fail
  refine (st_read H.out _ _ 0 l.length rfl rfl (by omega)).mono ?_
  rintro e w1 ⟨v1, rfl, hs, ho, hb⟩
  have H1 := Lib.hid hs
  have HB1 := Lib.hid hb
  have HO1 := Lib.hid ho
  clear hs ho hb
  go_wp2_with fail
  refine (st_read_bad H1.out _ _ (.inr (.inr (.inl ⟨by omega, by omega, by omega⟩)))).mono ?_
  rintro e w2 ⟨rfl, rfl⟩
  go_wp2_with fail
  refine (st_len H1.out).mono ?_
  rintro e w3 ⟨rfl, rfl⟩
  go_wp2_with fail
  refine (eq_holds (l1 := l) (l2 := l) (by have := Holds.of_own HO1.out; simpa using this) (HV.out.below HB1.out)).mono ?_
  rw [decide_eq_true (rfl : l = l)]
  rintro e w3 ⟨rfl, rfl⟩
  go_wp2_with fail
  go_ret
  exact ⟨rfl, ⟨H1.out.img, H1.out.base, H1.out.bel, H1.out.big, fun p hp => H1.out.held p (List.mem_cons_of_mem _ hp)⟩, HB1.out⟩
end Go.Proofs.Ytbblbeppiblndaa

/-
  The walk of crc.Combine. Condition: none but what every row bears.
-/
import Derived.Test.YtpdlkdlciipdcaaCrcUpd
import Derived.Test.YtpdlkdlciipdcaaCrcMat
namespace Go.Proofs.Ytpdlkdlciipdcaa
open Go.RowKit Drum
set_option linter.unusedVariables false
theorem shl_one (j : Nat) (h : j < 32) : (2 : Int) ^ j % (4294967296 : Int) = n32 (1#32 <<< j) := by
  have h2 : 2 ^ j < 2 ^ 32 := Nat.pow_lt_pow_right (by omega) h
  have h3 : ((2 : Int) ^ j) = ((2 ^ j : Nat) : Int) := by simp
  unfold n32
  rw [BitVec.toNat_shiftLeft, Nat.shiftLeft_eq, h3]
  show ((2 ^ j : Nat) : Int) % 4294967296 = (((1 * 2 ^ j) % 2 ^ 32 : Nat) : Int)
  omega
theorem wpList_shl_one {P : Program} {ops : Array Oper} {rest : List Oper} {o : Oper} {a : Act} {w : World} {Q : Exit → Act → World → Prop} (hg : o.guard = none)
    (t t2 : TypeId) (y : Operand) (j : Nat) (hj : j < 32) (ky : IntKind)
    (ho : o.op = .binOp .shl t (.const (.int .u32 1)) y t2) (hy : a.eval y = .int ky (j : Int))
    (h : wpList P ops Q rest (a.put o.dst (.int .u32 (n32 (1#32 <<< j)))) w) : wpList P ops Q (o :: rest) a w := by
  refine wpList_plain hg fun K hK => ?_
  have hK' := hK _ _ h
  have hx : a.eval (.const (.int .u32 1)) = .int .u32 1 := rfl
  unfold Oper.wp execOp
  rw [← shl_one j hj] at hK'
  have hj0 : ¬ ((j : Int) < 0) := by omega
  simp only [ho, hy, hx]
  simp [go_sem]
  exact hK'
set_option maxHeartbeats 400000 in
theorem combine_neg (a b : W32) (n : Int) (hn : n < 0) (w : World) :
    Calls Try.prog 19 #[.int .u32 (n32 a), .int .u32 (n32 b), .int .i64 n] w fun e w' => e = .returned (.tuple #[.int .u32 0, .int .i64 2]) ∧ Below w.heap.size w w' := by
  go_enter Try.func19, Try.ntmps19
  go_wp2_with fail
  go_ret2
  exact ⟨rfl, Below.refl _ _⟩
theorem comb_mat {w : World} {g P : Nat} (h : IsMat w g (fun i => capply (fun j => it cz P (1#32 <<< j)) (it cz P (1#32 <<< i)))) : IsMat w g (fun i => it cz (2 * P) (1#32 <<< i)) := by
  intro i hi
  have e : capply (fun j => it cz P (1#32 <<< j)) (it cz P (1#32 <<< i)) = it cz (2 * P) (1#32 <<< i) := by
    rw [capply_lin (it_lin cz_lin P) (fun _ _ => rfl), ← it_add, ← Nat.two_mul]
  rw [h i hi]
  exact congrArg some (u32_eq e)
/-- The matrix of one zero byte. -/
def zm (i : Nat) : W32 := cz (1#32 <<< i)
set_option maxHeartbeats 1000000 in
set_option maxRecDepth 100000 in
theorem combine_any (a b : W32) (n : Int) (h0 : 0 ≤ n) (hn : n ≤ 9223372036854775807) (w : World) :
    Calls Try.prog 19 #[.int .u32 (n32 a), .int .u32 (n32 b), .int .i64 n] w fun e w' => e = .returned (.tuple #[.int .u32 (n32 (cshift n.toNat a ^^^ b)), .int .i64 0]) ∧ Below w.heap.size w w' := by
  obtain ⟨n, rfl⟩ := Int.eq_ofNat_of_zero_le h0
  rw [Int.toNat_natCast]
  have hz := zero_tbl
  have hst := store_tbl
  have hsz := tblTo_size 256
  have hzm := zero_mat
  rw [matTo_zero _ zm] at hzm
  go_enter Try.func19, Try.ntmps19
  go_wp2_with (go_at_call 21; refine (table_any _).mono ?_; rintro e w1 ⟨rfl, hb1⟩)
  have HB := Lib.hid hb1
  clear hz hst hsz hzm hb1
  go_loopg [16] 32 (fun k v16 wr => ∃ j : Nat, j + k = 32 ∧ v16 = .int .i64 j ∧ Blk wr w1.heap.size 33 (tblTo 256) ∧ Blk wr (w1.heap.size + 1) 46 (matTo zm j) ∧ Below w.heap.size w wr)
  case atStart =>
    refine ⟨0, rfl, rfl, (Blk.new w1 _ _).alloc _, ?_, (HB.out.alloc HB.out.size _).alloc (by have := HB.out.size; simp; omega) _⟩
    have := Blk.new (w1.alloc (.cells (tblTo 256) 33)) 46 (matTo zm 0)
    simpa using this
  case round =>
    obtain ⟨j, hj, rfl, hbt, hbm, hbel⟩ := hrel
    have hj' : j ≤ 32 := by omega
    have HJ := Lib.hid hj
    have HBT := Lib.hid hbt
    have HBM := Lib.hid hbm
    have HBE := Lib.hid hbel
    by_cases hlt : j < 32
    · have hmod : (n32 (1#32 <<< j) % (256 : Int)).toNat = (low8 (1#32 <<< j)).toNat := by rw [low_u8]; unfold n8; rfl
      have ht := hbt.cell (n32 (1#32 <<< j) % (256 : Int)).toNat
      rw [hmod, tblTo_at 256 _ (low8 (1#32 <<< j)).isLt (low8 (1#32 <<< j)).isLt, BitVec.ofNat_toNat, BitVec.setWidth_eq, ← hmod] at ht
      obtain ⟨hs1, hs2⟩ := n32_bd (1#32 <<< j)
      have hcell := hbm.cell j
      rw [matTo_next _ j hlt] at hcell
      have hfr := hbm.frozen j
      have HZ := Lib.hid (show ctab (low8 (1#32 <<< j)) ^^^ (1#32 <<< j : W32) >>> 8 = zm j from (cz_tab _).symm)
      clear hj hbt hbm hbel hmod
      generalize ctab (low8 (1#32 <<< j)) = tj at *
      go_wp2_with (with_reducible refine wpList_shl_one rfl _ _ _ j hlt _ rfl rfl ?_)
      go_roundg (gk - 1)
      case measure => have := HJ.out; omega
      case rel =>
        refine ⟨j + 1, by have := HJ.out; omega, by go_num, HBT.out.far (by simp) _, ?_, HBE.out.setCell (by have := HB.out.size; simp; omega) _⟩
        rw [← matTo_set, ← HZ.out]; exact HBM.out.set_ j _
    · have e8 : j = 32 := by omega
      subst e8
      have HM0 : Hid (IsMat wr (w1.heap.size + 1) zm) := IsMat.of_blk hbm
      clear hj hbt hbm hbel
      obtain ⟨wo, rfl⟩ : ∃ wo : World, wo = wr := ⟨_, rfl⟩
      obtain ⟨go, rfl⟩ : ∃ go : Nat, go = gk := ⟨_, rfl⟩
      clear hj' hlt
      go_wp2_with fail
      go_loopg [0, 2, 12] n (fun k v0 v2 v12 wr => ∃ (x : W32) (P g : Nat), k ≤ n ∧ v0 = .int .u32 (n32 x) ∧ v2 = .int .i64 k ∧ v12 = .pointer (some ⟨g, 0, none⟩) ∧ IsMat wr g (fun i => it cz P (1#32 <<< i)) ∧ it cz (P * k) x = cshift n a ∧ Below w.heap.size w wr)
      case atStart => exact ⟨a, 1, w1.heap.size + 1, Nat.le_refl _, rfl, rfl, rfl, HM0.out, by rw [Nat.one_mul]; rfl, HBE.out⟩
      case round =>
        obtain ⟨x, P, g, hkn, rfl, rfl, rfl, hm, hx, hbel⟩ := hrel
        have HM := Lib.hid hm
        have HX := Lib.hid hx
        have HBL := Lib.hid hbel
        have HSQ := Lib.hid (square_any g _ wr hm)
        have HA := Lib.hid (apply_any g _ x wr hm)
        have HL := Lib.hid (it_lin cz_lin P)
        clear hm hx hbel
        by_cases hpos : 0 < gk
        · by_cases hod : gk % 2 = 1
          · have hb : ((gk : Int) % 2 == 1) = true := by rw [beq_iff_eq]; omega
            go_wp2_with fail
            refine HA.out.mono ?_
            rintro e w' ⟨rfl, rfl⟩
            go_wp2_with fail
            refine HSQ.out.mono ?_
            rintro e w' ⟨g', rfl, hm', _, hb'⟩
            have HM' := Lib.hid hm'
            have HB' := Lib.hid hb'
            clear hm' hb'
            go_wp2_with fail
            go_roundg (gk / 2)
            case measure => omega
            case rel =>
              refine ⟨_, 2 * P, g', by omega, rfl, by go_num, rfl, comb_mat HM'.out, ?_, HBL.out.trans (HB'.out.mono HBL.out.size)⟩
              rw [capply_lin HL.out (fun i _ => rfl), ← HX.out, it_even P gk x, if_pos hod]
          · have hb : ((gk : Int) % 2 == 1) = false := by rw [beq_eq_false_iff_ne]; omega
            go_wp2_with fail
            refine HSQ.out.mono ?_
            rintro e w' ⟨g', rfl, hm', _, hb'⟩
            have HM' := Lib.hid hm'
            have HB' := Lib.hid hb'
            clear hm' hb'
            go_wp2_with fail
            go_roundg (gk / 2)
            case measure => omega
            case rel =>
              refine ⟨_, 2 * P, g', by omega, rfl, by go_num, rfl, comb_mat HM'.out, ?_, HBL.out.trans (HB'.out.mono HBL.out.size)⟩
              rw [← HX.out, it_even P gk x, if_neg hod]
        · have h00 : gk = 0 := by omega
          subst h00
          go_wp2_with fail
          go_ret2
          exact ⟨by rw [← HX.out, Nat.mul_zero]; rfl, HBL.out⟩
end Go.Proofs.Ytpdlkdlciipdcaa

/-
  The walks of the codec's Append and Uint. Conditions: the width is 4 or 8; the bytes can be read; the number fits.
-/
import Derived.Test.YtbgahbeldnhloaaSupCodec
import Derived.Test.YtbgahbeldnhloaaLaws
import Derived.Laws.CopyOwn
namespace Go.Proofs.Ytbgahbeldnhloaa
open Go.RowKit Drum
set_option linter.unusedVariables false
theorem shr8j (x j : Nat) : ((x : Int) / (2 : Int) ^ (8 * j)) = ((x / 256 ^ j : Nat) : Int) := by
  have e : (2 : Nat) ^ (8 * j) = 256 ^ j := by rw [Nat.pow_mul]
  have : ((2 : Int) ^ (8 * j)) = ((256 ^ j : Nat) : Int) := by rw [← e]; simp
  rw [this]; simp
theorem byte_of (x j : Nat) : (((x / 256 ^ j : Nat) : Int)) % (256 : Int) = n8 (BitVec.ofNat 8 (x / 256 ^ j)) := by
  unfold n8; rw [BitVec.toNat_ofNat]; omega
theorem byte_of' (x j : Nat) : (x : Int) / 256 ^ j % 256 = n8 (BitVec.ofNat 8 (x / 256 ^ j)) := by
  rw [← byte_of, Int.natCast_ediv, Int.natCast_pow]; rfl
theorem wpList_shr_u64 {P : Program} {ops : Array Oper} {rest : List Oper} {o : Oper} {a : Act} {w : World} {Q : Exit → Act → World → Prop} (hg : o.guard = none)
    (t t2 : TypeId) (xo y : Operand) (x j : Nat) (hj : j < 8) (ky : IntKind) (ho : o.op = .binOp .shr t xo y t2) (hx : a.eval xo = .int .u64 (x : Int)) (hy : a.eval y = .int ky (8 * (j : Int)))
    (h : wpList P ops Q rest (a.put o.dst (.int .u64 ((x / 256 ^ j : Nat) : Int))) w) : wpList P ops Q (o :: rest) a w := by
  refine wpList_plain hg fun K hK => ?_
  have hK' := hK _ _ h
  unfold Oper.wp execOp
  have h0 : 0 ≤ 8 * (j : Int) := by omega
  have h1 : 8 * (j : Int) ≤ 64 := by omega
  have ht : (8 * (j : Int)).toNat = 8 * j := by omega
  simp only [ho, hx, hy]
  simp [go_sem, ht]
  rw [← shr8j] at hK'
  exact hK'
theorem shl8j (x j : Nat) (hx : x < 256) (hj : j < 8) : IntKind.u64.wrap ((x : Int) * (2 : Int) ^ (8 * j)) = ((x * 256 ^ j : Nat) : Int) := by
  have e : (2 : Nat) ^ (8 * j) = 256 ^ j := by rw [Nat.pow_mul]
  have e2 : ((2 : Int) ^ (8 * j)) = ((256 ^ j : Nat) : Int) := by rw [← e]; simp
  have h1 : x * 256 ^ j < 256 ^ (j + 1) := by
    rw [Nat.pow_succ, Nat.mul_comm]; exact (Nat.mul_lt_mul_left (Nat.pow_pos (by omega))).2 hx
  have h2 : 256 ^ (j + 1) ≤ 256 ^ 8 := Nat.pow_le_pow_right (by omega) (by omega)
  rw [e2, ← Int.natCast_mul]
  generalize x * 256 ^ j = q at h1
  simp only [IntKind.wrap, IntKind.signed, IntKind.bits]
  simp
  omega
theorem wpList_shl_u64 {P : Program} {ops : Array Oper} {rest : List Oper} {o : Oper} {a : Act} {w : World} {Q : Exit → Act → World → Prop} (hg : o.guard = none)
    (t t2 : TypeId) (xo y : Operand) (x j : Nat) (hx8 : x < 256) (hj : j < 8) (ky : IntKind) (ho : o.op = .binOp .shl t xo y t2) (hx : a.eval xo = .int .u64 (x : Int)) (hy : a.eval y = .int ky (8 * (j : Int)))
    (h : wpList P ops Q rest (a.put o.dst (.int .u64 ((x * 256 ^ j : Nat) : Int))) w) : wpList P ops Q (o :: rest) a w := by
  refine wpList_plain hg fun K hK => ?_
  have hK' := hK _ _ h
  unfold Oper.wp execOp
  have h0 : 0 ≤ 8 * (j : Int) := by omega
  have h1 : 8 * (j : Int) ≤ 64 := by omega
  have ht : (8 * (j : Int)).toNat = 8 * j := by omega
  have hs := shl8j x j hx8 hj
  simp only [ho, hx, hy]
  simp [go_sem, ht]
  first | exact hK' | (rw [← hs] at hK'; simpa [go_sem] using hK')
set_option maxHeartbeats 1000000 in
theorem cappend_any (A : Option Addr) (n c B : Nat) (l : List (BitVec 8)) (x k : Nat) (hk : k = 4 ∨ k = 8) (hx : x < 256 ^ k) (w : World) (hr : Reads w B 1 A n (u8s l)) (hB : B ≤ w.heap.size) (hn : n ≤ 60000) (hz : A = none → c = 0) :
    Calls Try.prog 25 #[.slice A n c, .int .u64 (x : Int), .int .i64 (k : Int)] w fun e w' => ∃ v, e = .returned (.tuple #[v, .int .i64 0]) ∧ w'.ownsRow w.heap.size 5 1 v (n + k) (u8s (l ++ le k x)) ∧ Below w.heap.size w w' := by
  obtain ⟨i0, hi0, hz0, hz1, hz2⟩ := info_parts u8_info
  have HR := Lib.hid hr
  have HF := Lib.hid (fun W => fits_any x k hk hx W)
  have HC := Lib.hid (fun g W hb => contains_any g k (by rcases hk with rfl | rfl <;> simp) W hb)
  have hk8 : k ≤ 8 := by omega
  clear hr hx hk
  go_enter Try.func25, Try.ntmps25
  go_wp2_with fail
  refine (widths_any _).mono ?_
  rintro e w1 ⟨rfl, rfl⟩
  go_wp2_with fail
  refine (HC.out w.heap.size _ (Blk.new w _ _)).mono ?_
  rintro e w1 ⟨rfl, rfl⟩
  go_wp2_with fail
  refine (HF.out _).mono ?_
  rintro e w1 ⟨rfl, hb1⟩
  have HB1 := Lib.hid (((Below.refl w.heap.size w).alloc (Nat.le_refl _) (.cells widthCells 3)).trans (hb1.mono (by simp)))
  clear hb1
  go_wp2_with fail
  refine (clone_any A n c B l w1 (HR.out.below (HB1.out.mono hB) : Reads w1 B 1 A n (u8s l)) (Nat.le_trans hB HB1.out.size) (by omega) hz).mono ?_
  rintro e w2 ⟨v, rfl, hown, hb2⟩
  have HO := Lib.hid (own_base (base' := w.heap.size) hown (fun k hk => by have := (hown.lt k hk).1; have := HB1.out.size; omega))
  have HB2 := Lib.hid (bt HB1.out hb2)
  clear hown hb2 HF HC HR
  have hk4 : k ≤ 8 := hk8
  go_wp2_with fail
  go_loopg [8, 23] k (fun q v8 v23 wr => ∃ j : Nat, j + q = k ∧ v23 = .int .i64 j ∧ wr.ownsRow w.heap.size 5 1 v8 (n + j) (u8s (l ++ le j x)) ∧ Below w.heap.size w wr)
  case atStart => exact ⟨0, by omega, rfl, by rw [le_zero, List.append_nil]; exact HO.out, HB2.out⟩
  case round =>
    obtain ⟨j, hj, rfl, ho, hb⟩ := hrel
    have hj' : j ≤ k := by omega
    have HJ := Lib.hid hj
    have HO := Lib.hid ho
    have HB := Lib.hid hb
    clear hj ho hb
    by_cases hlt : j < k
    · obtain ⟨wo, rfl⟩ : ∃ wo : World, wo = wr := ⟨_, rfl⟩
      have HN := Lib.hid (reads_new wo 5 #[.int .u8 ((x : Int) / 256 ^ j % 256)] (0, 0) [BitVec.ofNat 8 (x / 256 ^ j)] 1 rfl (by rw [byte_of']; rfl))
      go_wp2_with (first
        | (with_reducible refine wpList_shr_u64 rfl _ _ _ _ x j (by omega) _ rfl rfl rfl ?_)
        | (at_builtin
           refine wpList_append_g _ rfl (.tmp 26) (.tmp 32) _ rfl w.heap.size 5 i0 _ 1 1 Try.underlying26 hi0 hz0 hz1 hz2 rfl (by omega) _ (n + j) (u8s (l ++ le j x)) rfl
             (own_below' HO.out (ba (Below.refl _ _) _)) (wo.heap.size + 1) (some ⟨wo.heap.size, 0, none⟩) 1 1 (u8s [BitVec.ofNat 8 (x / 256 ^ j)]) rfl HN.out (u8s_one _) (by simp only [maxLen]; omega) (by omega) (by simp; have := HB.out.size; omega) ?_
           intro v1 w6 hown1 hg1 hat1
           rw [u8s_append, List.append_assoc, ← le_snoc] at hown1
           have HO1 := Lib.hid hown1
           have HB6 := Lib.hid ((ba HB.out (.cells #[.int .u8 ((x : Int) / 256 ^ j % 256)] 5)).grown hg1 (by simp; have := HB.out.size; omega) (fun q hq => (HO.out.lt q hq).1))
           clear hown1 hg1 hat1))
      go_roundg (gk - 1)
      case measure => have := HJ.out; omega
      case rel => exact ⟨j + 1, by have := HJ.out; omega, by go_num, by rw [show n + (j + 1) = n + j + 1 by omega]; exact HO1.out, HB6.out⟩
    · have e8 : j = k := by omega
      subst e8
      go_wp2_with fail
      go_ret2
      exact ⟨_, rfl, HO.out, HB.out⟩
theorem n8_nat (b : BitVec 8) : n8 b = ((b.toNat : Nat) : Int) := by unfold n8; rfl
theorem or_step (l : List (BitVec 8)) (a j : Nat) (hj : j < 8) (b : BitVec 8) (hb : b = l.getD (a + j) 0#8) :
    bits .or .u64 (numTo l a j : Int) ((b.toNat * 256 ^ j : Nat) : Int) = (numTo l a (j + 1) : Int) := by
  subst hb
  have h1 := numTo_lt l a j
  have h2 : (l.getD (a + j) 0#8).toNat * 256 ^ j < 256 ^ (j + 1) := by
    rw [Nat.pow_succ, Nat.mul_comm]; exact (Nat.mul_lt_mul_left (Nat.pow_pos (by omega))).2 (l.getD (a + j) 0#8).isLt
  have h3 : 256 ^ (j + 1) ≤ 256 ^ 8 := Nat.pow_le_pow_right (by omega) (by omega)
  have h4 : 256 ^ j ≤ 256 ^ 8 := Nat.pow_le_pow_right (by omega) (by omega)
  rw [u64_or_nat _ _ (by omega) (by omega)]
  congr 1
  show _ = numTo l a j + (l.getD (a + j) 0#8).toNat * 256 ^ j
  have e : (256 : Nat) ^ j = 2 ^ (8 * j) := by rw [Nat.pow_mul]
  rw [e] at h1 ⊢
  rw [Nat.or_comm, Nat.mul_comm, ← Nat.two_pow_add_eq_or_of_lt h1]; exact Nat.add_comm _ _
theorem getD_of {l : List (BitVec 8)} {k : Nat} (hk : k < l.length) : l[k] = l.getD k 0#8 := by
  rw [List.getD_eq_getElem?_getD, List.getElem?_eq_getElem hk]; rfl
set_option maxHeartbeats 1000000 in
theorem uint_any (A : Option Addr) (n c B : Nat) (l : List (BitVec 8)) (a k : Nat) (hk : k = 4 ∨ k = 8) (ha : a + k ≤ n) (w : World) (hr : Reads w B 1 A n (u8s l)) (hB : B ≤ w.heap.size) (hn : n = l.length) (hm : n ≤ maxLen) :
    Calls Try.prog 33 #[.slice A n c, .int .i64 (a : Int), .int .i64 (k : Int)] w fun e w' => e = .returned (.tuple #[.int .u64 (numTo l a k : Int), .int .i64 0]) ∧ Below w.heap.size w w' := by
  unfold maxLen at hm
  have HR := Lib.hid hr
  have HN := Lib.hid hn
  have HC := Lib.hid (fun g W hb => contains_any g k (by rcases hk with rfl | rfl <;> simp) W hb)
  have hk8 : k ≤ 8 := by omega
  clear hr hn hk
  go_enter Try.func33, Try.ntmps33
  go_wp2_with fail
  refine (widths_any _).mono ?_
  rintro e w1 ⟨rfl, rfl⟩
  go_wp2_with fail
  refine (HC.out w.heap.size _ (Blk.new w _ _)).mono ?_
  rintro e w1 ⟨rfl, rfl⟩
  obtain ⟨wo, hwo⟩ : ∃ wo : World, wo = w.alloc (.cells widthCells 3) := ⟨_, rfl⟩
  rw [← hwo]
  have HB0 : Hid (Below w.heap.size w wo) := by rw [hwo]; exact (Below.refl w.heap.size w).alloc (Nat.le_refl _) _
  have HRW := Lib.hid (HR.out.below (HB0.out.mono hB))
  clear hwo HC
  go_wp2_with fail
  go_loopg [8, 26] k (fun q v8 v26 wr => ∃ j : Nat, j + q = k ∧ v26 = .int .i64 j ∧ v8 = .int .u64 (numTo l a j : Int) ∧ wo = wr)
  case atStart => exact ⟨0, by omega, rfl, rfl, rfl⟩
  case round =>
    obtain ⟨j, hj, rfl, rfl, rfl⟩ := hrel
    have hj' : j ≤ k := by omega
    have HJ := Lib.hid hj
    clear hj
    by_cases hlt : j < k
    · have hlt2 : a + j < n := by omega
      obtain ⟨ad, u, rfl, _, hx, hc⟩ := HRW.out.at_ hlt2
      obtain ⟨hjl, rfl⟩ := u8s_at hx
      have HO := Lib.hid (or_step l a j (by omega) l[a + j] (getD_of hjl))
      rw [n8_nat] at hc
      have hlb := (l[a + j]).isLt
      clear hx
      go_wp2_with (with_reducible refine wpList_shl_u64 rfl _ _ _ _ (l[a + j]).toNat j (by omega) (by omega) _ rfl rfl rfl ?_)
      go_roundg (gk - 1)
      case measure => have := HJ.out; omega
      case rel => exact ⟨j + 1, by have := HJ.out; omega, by go_num, by rw [← HO.out, Int.natCast_mul, Int.natCast_pow]; rfl, rfl⟩
    · have e8 : j = k := by omega
      subst e8
      go_wp2_with fail
      go_ret2
      exact ⟨rfl, HB0.out⟩
end Go.Proofs.Ytbgahbeldnhloaa

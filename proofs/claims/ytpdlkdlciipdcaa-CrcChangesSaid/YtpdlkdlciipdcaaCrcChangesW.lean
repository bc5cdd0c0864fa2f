/-
  The walk of the law CrcChanges: it returns true and writes nothing that was there. No condition.
-/
import Derived.Test.YtpdlkdlciipdcaaCrcZerosW
namespace Go.Proofs.Ytpdlkdlciipdcaa
open Go.RowKit Drum
set_option linter.unusedVariables false
theorem it_cstep_shl : ∀ r, r < 32 → it cstep r (1#32 <<< r) = 1#32 := by decide +kernel
theorem cshift_steps (n : Nat) (x : W32) : cshift n x = it cstep (8 * n) x := it_it cstep 8 n x
theorem craw_flip (l : List (BitVec 8)) (q r : Nat) (hq : q < l.length) (hr : r < 8) (x : W32) :
    craw x (l.set q (l[q] ^^^ (1#8 <<< r))) = craw x l ^^^ it cstep (8 * (l.length - q) - r) 1#32 := by
  have hl : l = l.take q ++ l[q] :: l.drop (q + 1) := by rw [List.getElem_cons_drop, List.take_append_drop]
  have hs : l.set q (l[q] ^^^ (1#8 <<< r)) = l.take q ++ (l[q] ^^^ (1#8 <<< r)) :: l.drop (q + 1) := by
    rw [List.set_eq_take_append_cons_drop, if_pos hq]
  have e1 : craw x l = craw (cfeed (craw x (l.take q)) l[q]) (l.drop (q + 1)) := by
    conv => lhs; rw [hl]
    rw [craw_append]; rfl
  rw [hs, craw_append, e1]
  show craw (cfeed _ _) _ = _
  generalize craw x (l.take q) = y
  have e2 : cfeed y (l[q] ^^^ (1#8 <<< r)) = it cstep 8 (1#32 <<< r) ^^^ cfeed y l[q] := by
    unfold cfeed
    rw [← it_lin cstep_lin 8]
    congr 1
    have hw : wide (l[q] ^^^ (1#8 <<< r)) = wide l[q] ^^^ (1#32 <<< r) := by
      apply BitVec.eq_of_getLsbD_eq
      intro i hi
      simp only [wide, BitVec.getLsbD_setWidth, BitVec.getLsbD_xor, BitVec.getLsbD_shiftLeft, BitVec.getLsbD_one]
      by_cases h8 : i < 8
      · simp [h8, hi]
      · have : ¬ i - r = 0 := by omega
        simp [h8, hi, this]
    rw [hw]; ac_rfl
  rw [e2, craw_lin, BitVec.xor_comm]
  congr 1
  rw [List.length_drop, cshift_steps, ← it_add]
  have e3 : it cstep (8 + 8 * (l.length - (q + 1))) (1#32 <<< r) = it cstep (8 * (l.length - q) - r) (it cstep r (1#32 <<< r)) := by
    rw [← it_add]; congr 1; omega
  rw [e3, it_cstep_shl r (by omega)]
/-- The bits that are changed, of the first j, below N. -/
def cbits (x : W32) (N : Nat) : Nat → W32
  | 0 => 0#32
  | j + 1 => cbits x N j ^^^ (if x.getLsbD j && decide (j < N) then 1#32 <<< j else 0#32)
theorem cbits_bit (x : W32) (N : Nat) : ∀ j i, i < 32 → (cbits x N j).getLsbD i = (decide (i < j) && x.getLsbD i && decide (i < N)) := by
  intro j
  induction j with
  | zero => intro i hi; simp [cbits]
  | succ j ih =>
    intro i hi
    show (cbits x N j ^^^ _).getLsbD i = _
    rw [BitVec.getLsbD_xor, ih i hi]
    by_cases he : i = j
    · subst he
      by_cases hb : (x.getLsbD i && decide (i < N)) = true
      · rw [if_pos hb]
        simp only [Bool.and_eq_true, decide_eq_true_eq] at hb
        simp [hi, hb.1, hb.2]
      · rw [if_neg hb]
        simp only [Bool.not_eq_true] at hb
        simp only [Nat.lt_irrefl, decide_false, Bool.false_and, BitVec.getLsbD_zero, Bool.xor_false, Nat.lt_succ_self, decide_true, Bool.true_and, hb]
    · have h0 : (if (x.getLsbD j && decide (j < N)) = true then 1#32 <<< j else 0#32).getLsbD i = false := by
        split
        · simp only [BitVec.getLsbD_shiftLeft, BitVec.getLsbD_one]
          by_cases hlt : i < j
          · simp [hlt]
          · have : ¬ i - j = 0 := by omega
            simp [this]
        · simp
      have h1 : decide (i < j + 1) = decide (i < j) := by
        by_cases h : i < j
        · simp [h, show i < j + 1 by omega]
        · simp [h, show ¬ i < j + 1 by omega]
      rw [h0, h1]; simp
theorem cbits_step (x : W32) (N j : Nat) (hb : x.getLsbD j = true) (hN : j < N) : cbits x N (j + 1) = cbits x N j ^^^ 1#32 <<< j := by
  show _ ^^^ _ = _; rw [hb]; simp [hN]
theorem cbits_same (x : W32) (N j : Nat) (h : (x.getLsbD j && decide (j < N)) = false) : cbits x N (j + 1) = cbits x N j := by
  show _ ^^^ _ = _; rw [h]; simp
/-- Whether a bit was changed. -/
def chB (x : W32) (N j : Nat) : Bool := decide (cbits x N j ≠ 0#32)
theorem cbits_ne (x : W32) (N j : Nat) (hj : j < 32) (hb : x.getLsbD j = true) (hN : j < N) : cbits x N (j + 1) ≠ 0#32 := by
  intro h
  have := cbits_bit x N (j + 1) j hj
  rw [h] at this
  simp [hb, hN] at this
theorem it_one (N j : Nat) (hj : j < 32) (hN : j ≤ N) : it cstep (N - j) 1#32 = it cstep N (1#32 <<< j) := by
  have e : it cstep N (1#32 <<< j) = it cstep (N - j) (it cstep j (1#32 <<< j)) := by rw [← it_add]; congr 1; omega
  rw [e, it_cstep_shl j hj]
theorem csum_diff (l m : List (BitVec 8)) (N : Nat) (D : W32) (h : ∀ x, craw x m = craw x l ^^^ it cstep N D) : (csum l = csum m) ↔ D = 0#32 := by
  unfold csum cupd
  rw [h]
  constructor
  · intro e
    have e2 := congrArg (· ^^^ 0xFFFFFFFF#32) e
    simp only [BitVec.xor_assoc, BitVec.xor_self, BitVec.xor_zero] at e2
    generalize craw (0#32 ^^^ 0xFFFFFFFF#32) l = p at e2
    have e3 := congrArg (p ^^^ ·) e2
    simp only [← BitVec.xor_assoc, BitVec.xor_self, BitVec.zero_xor] at e3
    have hz : it cstep N 0#32 = 0#32 := (it_lin cstep_lin N).zero
    exact it_inj cstep_inj N _ _ (e3.symm.trans hz.symm)
  · intro e
    rw [e, (it_lin cstep_lin N).zero, BitVec.xor_zero]
theorem shl_one8 (j : Nat) (h : j < 8) : (2 : Int) ^ j % (256 : Int) = n8 (1#8 <<< j) := by
  have h2 : 2 ^ j < 2 ^ 8 := Nat.pow_lt_pow_right (by omega) h
  have h3 : ((2 : Int) ^ j) = ((2 ^ j : Nat) : Int) := by simp
  unfold n8
  rw [BitVec.toNat_shiftLeft, Nat.shiftLeft_eq, h3]
  show ((2 ^ j : Nat) : Int) % 256 = (((1 * 2 ^ j) % 2 ^ 8 : Nat) : Int)
  omega
theorem wpList_shl_one8 {P : Program} {ops : Array Oper} {rest : List Oper} {o : Oper} {a : Act} {w : World} {Q : Exit → Act → World → Prop} (hg : o.guard = none)
    (t t2 : TypeId) (y : Operand) (j : Nat) (hj : j < 8) (ky : IntKind) (z : Int) (hz : z = (j : Int))
    (ho : o.op = .binOp .shl t (.const (.int .u8 1)) y t2) (hy : a.eval y = .int ky z)
    (h : wpList P ops Q rest (a.put o.dst (.int .u8 (n8 (1#8 <<< j)))) w) : wpList P ops Q (o :: rest) a w := by
  refine wpList_plain hg fun K hK => ?_
  have hK' := hK _ _ h
  have hx : a.eval (.const (.int .u8 1)) = .int .u8 1 := rfl
  subst hz
  unfold Oper.wp execOp
  rw [← shl_one8 j hj] at hK'
  have hj0 : ¬ ((j : Int) < 0) := by omega
  simp only [ho, hy, hx]
  simp [go_sem]
  exact hK'
theorem u8s_set (l : List (BitVec 8)) (q : Nat) (b : BitVec 8) : u8s (l.set q b) = (u8s l).set q (.int .u8 (n8 b)) := by
  simp [u8s, List.map_set, u8v]
@[go_sem] theorem bneq_u32 (x y : W32) : (n32 x != n32 y) = !decide (x = y) := by
  have := beq_u32 x y
  simp only [bne]
  rw [← this]
set_option maxHeartbeats 1000000 in
theorem CrcChanges_none (A : Option Addr) (n c : Nat) (x : W32) (f : Nat) (w : World) (hn : n ≤ maxLen) (hc : 1000 < n ∨ n = 0 ∨ (n ≤ 1000 ∧ 0 < n ∧ x = 0#32)) :
    Calls Try.prog 8 #[.slice A n c, .int .u32 (n32 x), .int .u16 f] w fun e w' => e = .returned (.bool true) ∧ Below w.heap.size w w' := by
  unfold maxLen at hn
  rcases hc with h | h | ⟨h1, h2, h3⟩
  · have d1 : decide (1000 < (n : Int)) = true := by simp; omega
    go_enter Try.func8, Try.ntmps8
    go_wp2_with (go_at_call 13; refine (works_any _).mono ?_; rintro e w' ⟨rfl, hb⟩)
    go_ret
    exact ⟨rfl, hb⟩
  · subst h
    go_enter Try.func8, Try.ntmps8
    go_wp2_with (go_at_call 13; refine (works_any _).mono ?_; rintro e w' ⟨rfl, hb⟩)
    go_ret
    exact ⟨rfl, hb⟩
  · have d1 : decide (1000 < (n : Int)) = false := by simp; omega
    have d2 : ((n : Int) == 0) = false := by rw [beq_eq_false_iff_ne]; omega
    have d3 : (n32 x == 0) = true := by
      have := beq_u32 x 0#32
      rw [show n32 0#32 = 0 by unfold n32; rfl] at this
      rw [this]; simpa using h3
    clear h1 h2 h3
    go_enter Try.func8, Try.ntmps8
    go_wp2_with (go_at_call 13; refine (works_any _).mono ?_; rintro e w' ⟨rfl, hb⟩)
    go_ret
    exact ⟨rfl, hb⟩
set_option maxHeartbeats 2000000 in
set_option maxRecDepth 100000 in
theorem CrcChanges_some (A : Option Addr) (n c : Nat) (l : List (BitVec 8)) (x : W32) (f : Nat) (w : World) (hl : n = l.length) (hr : Reads w w.heap.size 1 A n (u8s l)) (h1 : n ≤ 1000) (h0 : 0 < n) (hx : x ≠ 0#32) (hf : f < 65536) :
    Calls Try.prog 8 #[.slice A n c, .int .u32 (n32 x), .int .u16 f] w fun e w' => e = .returned (.bool true) ∧ Below w.heap.size w w' := by
  have HR := Lib.hid hr
  have HL := Lib.hid hl
  have d1 : decide (1000 < (n : Int)) = false := by simp; omega
  have d2 : ((n : Int) == 0) = false := by rw [beq_eq_false_iff_ne]; omega
  have d3 : (n32 x == 0) = false := by
    have := beq_u32 x 0#32
    rw [show n32 0#32 = 0 by unfold n32; rfl] at this
    rw [this]; simpa using hx
  obtain ⟨i0, hi0, hz0, hz1, hz2⟩ := info_parts u8_info
  obtain ⟨p, hp⟩ : ∃ p : Nat, (f : Int) % (8 * (n : Int)) = (p : Int) := ⟨f % (8 * n), by simp⟩
  have hp8 : p < 8 * n := by
    have := Int.emod_lt_of_pos (f : Int) (show (0 : Int) < 8 * (n : Int) by omega)
    omega
  have HP := Lib.hid hp
  clear hr hl hx
  have hown0 : (w.alloc (.cells #[] 5)).ownsRow w.heap.size 5 1 (.slice (some ⟨w.heap.size, 0, none⟩) 0 0) 0 [] := World.ownsRow_made w #[] 0 (Nat.le_refl _) (by unfold maxLen; omega) (by simp)
  have HO := Lib.hid hown0
  clear hown0
  go_enter Try.func8, Try.ntmps8
  go_wp2_with (at_builtin
               refine wpList_append_g _ (by simp [Region.wanted]) (.tmp 27) (.tmp 28) _ rfl w.heap.size 5 i0 _ 1 1 Try.underlying22 hi0 hz0 hz1 hz2 rfl (by omega) (.slice (some ⟨w.heap.size, 0, none⟩) 0 0) 0 [] rfl
                 HO.out w.heap.size A n c (u8s l) rfl (HR.out.alloc (Nat.le_refl _) _) (u8s_one l) (by simp only [maxLen]; omega) (by omega) (by simp) ?_
               intro v1 w4 hown1 hg1 hat1
               have HB4 := Lib.hid (((Below.refl w.heap.size w).alloc (Nat.le_refl _) (.cells #[] 5)).grown hg1 (by simp) (by intro q hq; simp [Value.ownBlock] at hq; omega))
               obtain ⟨g, cap, rfl, hgl, hgs⟩ := hown1.form (by omega)
               have HO1 := Lib.hid hown1
               clear hown1 hg1 hat1)
  obtain ⟨N, hN⟩ : ∃ N, N = 8 * n - p := ⟨_, rfl⟩
  have HN := Lib.hid hN
  have HN8 : Hid (p + N = 8 * n) := by show _ = _; omega
  clear hN
  rw [HP.out]
  go_loopg [9, 10] 32 (fun k v9 v10 wr => ∃ (j : Nat) (cl : List (BitVec 8)), j + k = 32 ∧ v10 = .int .i64 j ∧ v9 = .bool (chB x N j) ∧
    wr.ownsRow w.heap.size 5 1 (.slice (some ⟨g, 0, none⟩) (0 + n) cap) (0 + n) (u8s cl) ∧ cl.length = n ∧ (∀ y, craw y cl = craw y l ^^^ it cstep N (cbits x N j)) ∧ Below w.heap.size w wr)
  case atStart =>
    refine ⟨0, l, rfl, rfl, rfl, by simpa using HO1.out, HL.out.symm, fun y => ?_, HB4.out⟩
    show _ = craw y l ^^^ it cstep N 0#32
    rw [(it_lin cstep_lin N).zero, BitVec.xor_zero]
  case round =>
    obtain ⟨j, cl, hj, rfl, rfl, hown, hcl, hcr, hbel⟩ := hrel
    have hj' : j ≤ 32 := by omega
    have HJ := Lib.hid hj
    have HOW := Lib.hid hown
    have HCL := Lib.hid hcl
    have HCR := Lib.hid hcr
    have HBE := Lib.hid hbel
    have hcll : n ≤ cl.length := by omega
    by_cases hlt : j < 32
    · by_cases hb0 : x.getLsbD j = true
      · have hb : (bits .and .u32 (n32 x / (2 : Int) ^ j) 1 == 1) = true := by rw [shrj_u32, odd_u32]; simpa using bit_decide.2 hb0
        by_cases hin : p + j < 8 * n
        · have hq : (p + j) / 8 < n := by omega
          have hq2 : (p + j) / 8 < cl.length := by omega
          have hcell : wr.cell? ⟨g, (p + j) / 8, none⟩ = some (.int .u8 (n8 cl[(p + j) / 8])) := by
            rw [hown.cellAt _ (by omega)]
            simp [u8s, u8v, hq2]
          have hfr := hown.frozenAt ((p + j) / 8)
          have hst := hown.stored ((p + j) / 8) (.int .u8 (n8 (cl[(p + j) / 8] ^^^ 1#8 <<< ((p + j) % 8))))
          have HST := Lib.hid hst
          have HFL := Lib.hid (fun y => craw_flip cl ((p + j) / 8) ((p + j) % 8) hq2 (by omega) y)
          have HZ := Lib.hid (show ((p : Int) + (j : Int)) % 8 = (((p + j) % 8 : Nat) : Int) by omega)
          have hr8 : (p + j) % 8 < 8 := by omega
          have hstep := Lib.hid (cbits_step x N j hb0 (by have := HN8.out; omega))
          have hne := Lib.hid (cbits_ne x N j hlt hb0 (by have := HN8.out; omega))
          clear hj hown hcl hcr hbel hst hb0
          go_wp2_with (with_reducible refine wpList_shl_one8 rfl _ _ _ _ hr8 _ _ HZ.out rfl rfl ?_)
          go_roundg (gk - 1)
          case measure => have := HJ.out; omega
          case rel =>
            refine ⟨j + 1, cl.set ((p + j) / 8) (cl[(p + j) / 8] ^^^ 1#8 <<< ((p + j) % 8)), by have := HJ.out; omega, by go_num, by unfold chB; rw [decide_eq_true hne.out], ?_, by rw [List.length_set]; exact HCL.out, fun y => ?_, HBE.out.setCell hgl _⟩
            · rw [u8s_set]; exact HST.out.1
            · have e : 8 * (cl.length - (p + j) / 8) - (p + j) % 8 = N - j := by have := HN8.out; have := HCL.out; omega
              rw [HFL.out, HCR.out, e, it_one N j hlt (by have := HN8.out; omega), hstep.out, it_lin cstep_lin N, BitVec.xor_assoc]
        · have hd : ¬ ((p : Int) + (j : Int) < 8 * (n : Int)) := by omega
          have hsame := Lib.hid (cbits_same x N j (by have := HN8.out; simp; intro _; omega))
          clear hj hown hcl hcr hbel hb0
          go_wp2_with fail
          go_roundg (gk - 1)
          case measure => have := HJ.out; omega
          case rel => exact ⟨j + 1, cl, by have := HJ.out; omega, by go_num, by unfold chB; rw [hsame.out], HOW.out, HCL.out, by rw [hsame.out]; exact HCR.out, HBE.out⟩
      · have hb : (bits .and .u32 (n32 x / (2 : Int) ^ j) 1 == 1) = false := by rw [shrj_u32, odd_u32]; simpa using fun e => hb0 (bit_decide.1 e)
        have hsame := Lib.hid (cbits_same x N j (by simp at hb0; simp [hb0]))
        clear hj hown hcl hcr hbel hb0
        go_wp2_with fail
        go_roundg (gk - 1)
        case measure => have := HJ.out; omega
        case rel => exact ⟨j + 1, cl, by have := HJ.out; omega, by go_num, by unfold chB; rw [hsame.out], HOW.out, HCL.out, by rw [hsame.out]; exact HCR.out, HBE.out⟩
    · have e8 : j = 32 := by omega
      subst e8
      have hdiff := csum_diff l cl N _ hcr
      have RW := Lib.hid (HR.out.below hbel)
      cases hq : chB x N 32 with
      | true =>
        have hne : csum l ≠ csum cl := by
          intro e
          have := hdiff.1 e
          unfold chB at hq
          simp [this] at hq
        have h1 : decide (csum l = csum cl) = false := by simpa using hne
        have h2 : decide (csum cl = csum l) = false := by simpa using fun e => hne (Eq.symm e)
        have H2 := Lib.hid h2
        clear hj hown hcl hcr hbel hdiff hne h2
        go_wp2_with fail
        refine (sum_any _ _ _ _ _ _ RW.out HBE.out.size HL.out (by unfold maxLen; omega)).mono ?_
        rintro e w5 ⟨rfl, hb5⟩
        have HB5 := Lib.hid hb5
        have HO5 := Lib.hid (own_below' HOW.out hb5)
        clear hb5
        go_wp2_with fail
        rw [← Nat.zero_add n]
        refine (sum_own HO5.out).mono ?_
        rw [Nat.zero_add n]
        rintro e w6 ⟨rfl, hb6⟩
        have HB6 := Lib.hid hb6
        have HO6 := Lib.hid (own_below' HO5.out hb6)
        clear hb6
        go_wp2_with fail
        rw [← Nat.zero_add n]
        refine (valid_own (csum l) HO6.out).mono ?_
        rw [Nat.zero_add n, H2.out]
        rintro e w7 ⟨rfl, hb7⟩
        have HB7 := Lib.hid hb7
        clear hb7
        go_wp2_with fail
        refine (works_any _).mono ?_
        rintro e w8 ⟨rfl, hb8⟩
        go_wp2
        go_ret
        exact ⟨rfl, bt (bt (bt (bt HBE.out HB5.out) HB6.out) HB7.out) hb8⟩
      | false =>
        have hne : csum l = csum cl := hdiff.2 (by unfold chB at hq; simpa using hq)
        have h2 : decide (csum cl = csum l) = true := by simpa using hne.symm
        have H2 := Lib.hid h2
        have HNE := Lib.hid hne
        clear hj hown hcl hcr hbel hdiff hne h2
        go_wp2_with fail
        refine (sum_any _ _ _ _ _ _ RW.out HBE.out.size HL.out (by unfold maxLen; omega)).mono ?_
        rintro e w5 ⟨rfl, hb5⟩
        have HB5 := Lib.hid hb5
        have HO5 := Lib.hid (own_below' HOW.out hb5)
        clear hb5
        go_wp2_with fail
        rw [← Nat.zero_add n]
        refine (sum_own HO5.out).mono ?_
        rw [Nat.zero_add n, ← HNE.out]
        rintro e w6 ⟨rfl, hb6⟩
        have HB6 := Lib.hid hb6
        have HO6 := Lib.hid (own_below' HO5.out hb6)
        clear hb6
        go_wp2_with fail
        rw [← Nat.zero_add n]
        refine (valid_own (csum l) HO6.out).mono ?_
        rw [Nat.zero_add n, H2.out]
        rintro e w7 ⟨rfl, hb7⟩
        have HB7 := Lib.hid hb7
        clear hb7
        go_wp2_with fail
        refine (works_any _).mono ?_
        rintro e w8 ⟨rfl, hb8⟩
        go_wp2
        go_ret
        exact ⟨rfl, bt (bt (bt (bt HBE.out HB5.out) HB6.out) HB7.out) hb8⟩
theorem CrcChanges_walk (v0 v1 v2 : Value) (w : World) (h0 : ArgIn Try.prog w 22 v0) (h1 : ArgIn Try.prog w 23 v1) (h2 : ArgIn Try.prog w 39 v2) :
    Calls Try.prog 8 #[v0, v1, v2] w fun e w' => e = .returned (.bool true) ∧ Below w.heap.size w w' := by
  obtain ⟨a0, n, c, z0, rfl, w0⟩ := h0.row Try.underlying22 Try.underlying5 (by kernel_rfl)
  obtain ⟨a1, rfl, w1⟩ := h1.int Try.underlying23
  obtain ⟨a2, rfl, w2⟩ := h2.int Try.underlying39
  obtain ⟨l, hl, hm, _, _, hr⟩ := w0.bytes
  obtain ⟨x, rfl⟩ := u32_of_wf w1
  obtain ⟨h3, h4⟩ := u16_of_wf w2
  obtain ⟨f, rfl⟩ := Int.eq_ofNat_of_zero_le h3
  by_cases c1 : 1000 < n
  · exact CrcChanges_none a0 n c x f w hm (.inl c1)
  by_cases c2 : n = 0
  · exact CrcChanges_none a0 n c x f w hm (.inr (.inl c2))
  by_cases c3 : x = 0#32
  · exact CrcChanges_none a0 n c x f w hm (.inr (.inr ⟨by omega, by omega, c3⟩))
  exact CrcChanges_some a0 n c l x f w hl hr (by omega) (by omega) c3 (by omega)
end Go.Proofs.Ytpdlkdlciipdcaa

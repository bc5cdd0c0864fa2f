/-
  The walks of the disk laws' begin, agrees, and any turn. Conditions: the disk is as New makes it, what is known is true of it, and the objects lie apart.
-/
import Derived.Test.YtelobbigpgfobaaKturn2
import Derived.Test.YtelobbigpgfobaaUsed
import Derived.Test.YtelobbigpgfobaaDwhole
namespace Go.Proofs.Ytelobbigpgfobaa
open Go.RowKit
set_option linter.unusedVariables false
theorem usedTo_prefix (D : Nat → SlotD) {i n : Nat} (h : i ≤ n) : usedTo D i <+: usedTo D n := by
  induction n with
  | zero =>
    have : i = 0 := by omega
    subst this
    exact List.prefix_refl _
  | succ n ih =>
    by_cases e : i = n + 1
    · subst e; exact List.prefix_refl _
    · refine (ih (by omega)).trans ?_
      by_cases hp : 0 < (D n).bytes.length
      · rw [usedTo_succ_pos hp]; exact List.prefix_append _ _
      · rw [usedTo_succ_zero hp]; exact List.prefix_refl _
theorem usedTo_get {D : Nat → SlotD} {i n : Nat} (h : i < n) (hp : 0 < (D i).bytes.length) : (usedTo D i).length < (usedTo D n).length ∧ (usedTo D n)[(usedTo D i).length]? = some i := by
  obtain ⟨t, ht⟩ := usedTo_prefix D (show i + 1 ≤ n by omega)
  rw [usedTo_succ_pos hp] at ht
  rw [← ht]
  constructor
  · simp
  · rw [List.append_assoc, List.getElem?_append_right (Nat.le_refl _)]
    simp
section
variable {B : Nat} {w0 w w' : World} {os : List Ob} {d n size k gb gd : Nat} {rb : Option Nat} {lay : Lay} {D : Nat → SlotD} {S : Nat → Prop}
theorem turn_any (h : KSep B w0 w d rb lay S k gb gd size n D os) (hn : 0 < n) (hm34 : n ≤ 65536) (hCC : AllCells os) (a s b c : BitVec 8) :
    Calls Try.prog 12 #[.pointer (some ⟨k, 0, none⟩), turnV a s b c] w fun e w' => e = .returned (.bool true) ∧ ∃ lay' S', KSep B w0 w' d rb lay' S' k gb gd size n (turnD n D a s b c) os := by
  unfold turnD
  by_cases h5 : a.toNat % 8 < 5
  · rw [if_pos h5]; exact turn_app h hn hm34 a s b c h5
  rw [if_neg h5]
  by_cases h6 : a.toNat % 8 = 5
  · rw [if_pos h6]; exact turn_sync h hn hm34 a s b c h6
  rw [if_neg h6]
  by_cases h7 : a.toNat % 8 = 6
  · rw [if_pos h7]; exact turn_erase h hn hm34 a s b c h7
  rw [if_neg h7]
  exact turn_crash h hn hm34 hCC a s b c (by omega)
set_option maxRecDepth 100000 in
set_option maxHeartbeats 8000000 in
theorem agrees_any (hd : IsDisk w d rb n lay D) (hk : IsKnown w S k gb gd d size n D) (hn : 0 < n) (hm34 : n ≤ 65536) :
    Calls Try.prog 13 #[.pointer (some ⟨k, 0, none⟩), .pointer (some ⟨d, 0, none⟩)] w fun e w' => e = .returned (.bool true) ∧ Below w.heap.size w w' := by
  have HD := Lib.hid hd
  have HK := Lib.hid hk
  clear hd hk
  go_enter Try.func13, Try.ntmps13
  go_wp2_with fail
  refine (used_law d n rb lay D w HD.out hn hm34).mono ?_
  rintro e w1 ⟨v1, rfl, ho, hb⟩
  obtain ⟨A1, c1, rfl, h11, h12, h13, h14⟩ := ints_cells ho
  obtain ⟨U, hU⟩ : ∃ U, (usedTo D n).length = U := ⟨_, rfl⟩
  have hul := usedTo_length D n
  rw [hU] at h11 h14 hul ⊢
  have HL : Hid (∀ W, Below w1.heap.size w1 W → ∀ i, i < n → 0 < (D i).bytes.length → (usedTo D i).length < U ∧ ∃ ad, A1 = some ad ∧ W.cell? (ad.add (usedTo D i).length) = some (.int .i64 (i : Int))) := fun W hW i hi hp => by
    obtain ⟨h1, h2⟩ := usedTo_get hi hp
    rw [hU] at h1
    obtain ⟨ad, e, hab, hc⟩ := h14 _ h1
    refine ⟨h1, ad, e, (hW.cell (p := ad.add (usedTo D i).length) (by rw [block_of_add]; exact hab)).trans ?_⟩
    rw [hc, List.getD_eq_getElem?_getD]
    unfold nats
    rw [List.getElem?_map, h2]
    rfl
  have HU := Lib.hid hU
  have HD1 := Lib.hid (HD.out.below hb)
  have HK1 := Lib.hid (HK.out.below hb)
  have HB1 := Lib.hid hb
  unfold maxLen at h12
  clear ho hb h14 h13 hU
  go_wp2_with fail
  go_loopg [6, 7] n (fun q v6 v7 wr => ∃ (j : Nat), j + q = n ∧ v7 = .int .i64 j ∧ v6 = .int .i64 ((usedTo D j).length : Int) ∧ Below w1.heap.size w1 wr)
  case atStart => exact ⟨0, by omega, rfl, rfl, Below.refl _ _⟩
  case round =>
    obtain ⟨j, hj, rfl, rfl, hb⟩ := hrel
    have HJ := Lib.hid hj
    have hj' : j ≤ n := by omega
    have HB2 := Lib.hid hb
    have HD2 := Lib.hid (HD1.out.below hb)
    have HK2 := Lib.hid (HK1.out.below hb)
    obtain ⟨k0, k1, k2, k3⟩ := HK2.out.cells
    by_cases hlt : j < n
    · obtain ⟨u1, u2, u3, u4⟩ := HD1.out.nums hlt
      obtain ⟨x1, x2, x3⟩ := HK1.out.nums j hlt
      have huj := usedTo_length D j
      clear hj hb
      go_wp2_with fail
      refine (disk_len HD2.out hn j hlt).mono ?_
      rintro e w3 ⟨rfl, hb⟩
      have HB3 := Lib.hid (bt HB2.out hb)
      have HD3 := Lib.hid (HD2.out.below hb)
      have HK3 := Lib.hid (HK2.out.below hb)
      clear hb k0 k1 k2 k3
      go_wp2_with fail
      refine (disk_read_ok HD3.out hn j hlt 0 (D j).bytes.length (by omega)).mono ?_
      rintro e w4 ⟨v4, rfl, ho, hb⟩
      rw [List.drop_zero, List.take_length] at ho
      obtain ⟨A4, c4, rfl, hc4, hr4⟩ := own_reads ho (by omega)
      have HB4 := Lib.hid (bt HB3.out hb)
      have HD4 := Lib.hid (HD3.out.below hb)
      have HK4 := Lib.hid (HK3.out.below hb)
      have HV4 := Lib.hid hr4
      clear hb ho hr4
      unfold maxLen at hc4
      go_wp2_with fail
      refine (disk_durable HD4.out hn j hlt).mono ?_
      rintro e w5 ⟨rfl, hb⟩
      have HB5 := Lib.hid (bt HB4.out hb)
      have HD5 := Lib.hid (HD4.out.below hb)
      have HK5 := Lib.hid (HK4.out.below hb)
      have HV5 := Lib.hid ((HV4.out.below hb).more hb.size)
      clear hb
      go_wp2_with fail
      refine (disk_room HD5.out hn j hlt).mono ?_
      rintro e w6 ⟨rfl, hb⟩
      have HB6 := Lib.hid (bt HB5.out hb)
      have HD6 := Lib.hid (HD5.out.below hb)
      have HK6 := Lib.hid (HK5.out.below hb)
      have HV6 := Lib.hid ((HV5.out.below hb).more hb.size)
      clear hb
      obtain ⟨k0, k1, k2, k3⟩ := HK6.out.cells
      obtain ⟨Bj, cj, e1, e2, e3, e4, e5⟩ := HK6.out.slot j hlt
      have hce := e5.1
      have hcm := e5.2.1
      unfold maxLen at hcm
      obtain ⟨Z, hZ⟩ : ∃ Z, strOf (D j).bytes = Z := ⟨_, rfl⟩
      have s1 : ∀ q, (convert 36 9 (.slice A4 (D j).bytes.length c4)).run Try.prog (w6.drewN q) = .ok (.string Z) (w6.drewN q) := fun q => by
        rw [← hZ]; exact str_bytes (HV6.out.drewN q)
      have s2 : ∀ q, (convert 36 9 (.slice Bj (D j).bytes.length cj)).run Try.prog (w6.drewN q) = .ok (.string Z) (w6.drewN q) := fun q => by
        rw [← hZ]; exact str_bytes ((e5.reads HK6.out.cel.lt).drewN q)
      obtain ⟨L, hL⟩ : ∃ L, (D j).bytes.length = L := ⟨_, rfl⟩
      have HLL := Lib.hid hL
      rw [hL] at s1 s2 e1 u1 u2 hce x1 x2 ⊢
      have hss : IntKind.i64.wrap ((size : Int) - (L : Int)) = (size : Int) - (L : Int) := by rw [IntKind.wrap_i64]; omega
      have hsd : ((D j).size : Int) = (size : Int) := by rw [x3]
      rw [hsd]
      clear hZ e5 hL hsd
      go_wp2_with fail
      go_quiet (fail)
      have hb : Below w6.heap.size w6 (w6.drewN nq) := bel_drewN' _ _
      have HB7 := Lib.hid (bt HB6.out hb)
      generalize w6.drewN nq = w7 at hb HB7 ⊢
      clear hb s1 s2 e1 e2 e3 e4 k0 k1 k2 k3
      by_cases hp : 0 < L
      · have hu := usedTo_succ_pos (D := D) (j := j) (by rw [HLL.out]; exact hp)
        obtain ⟨g1, ad, rfl, g2⟩ := HL.out w7 HB7.out j hlt (by rw [HLL.out]; exact hp)
        obtain ⟨M, hM⟩ : ∃ M, (usedTo D j).length = M := ⟨_, rfl⟩
        have hM2 : (usedTo D (j + 1)).length = M + 1 := by rw [hu, List.length_append, hM]; rfl
        have HM2 := Lib.hid hM2
        rw [hM] at g1 g2 huj ⊢
        clear hu hM hM2
        go_wp2_with fail
        go_roundg (gk - 1)
        case measure => have := HJ.out; omega
        case rel => exact ⟨j + 1, by have := HJ.out; omega, by go_num, by rw [HM2.out]; go_num, HB7.out⟩
      · have hu := usedTo_succ_zero (D := D) (j := j) (by rw [HLL.out]; exact hp)
        have HU2 := Lib.hid hu
        clear hu
        go_wp2_with fail
        go_roundg (gk - 1)
        case measure => have := HJ.out; omega
        case rel => exact ⟨j + 1, by have := HJ.out; omega, by go_num, by rw [HU2.out], HB7.out⟩
    · have e8 : j = n := by omega
      subst e8
      have hUj := HU.out
      clear hj hb
      rw [hUj]
      have HS : Hid (∀ W, Below wr.heap.size wr W → Calls Try.prog 33 #[.pointer (some ⟨d, 0, none⟩)] W fun e w' => e = .returned (.int .i64 (j : Int)) ∧ W = w') := fun W hW => slots_disk (HD2.out.below hW) hn
      go_wp2_with fail
      go_region_held3 (fun W' => W'.cell? ⟨k, 2, none⟩ = some (.slice (some ⟨gb, 0, none⟩) j j)) (first | assumption | go_keep)
        (first | (go_at_call 33; refine (HS.out _ (by first | exact Below.refl _ _ | exact (Below.refl _ _).drew)).mono ?_; rintro e w' ⟨rfl, rfl⟩))
      all_goals
        go_wp2_with fail
        go_ret
        exact ⟨by simp, (bt HB1.out HB2.out).drew⟩
end
end Go.Proofs.Ytelobbigpgfobaa

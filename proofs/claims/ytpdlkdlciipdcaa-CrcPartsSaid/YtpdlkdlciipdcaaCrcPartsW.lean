/-
  The walk of the law CrcParts: it returns true and writes nothing that was there. No condition.
-/
import Derived.Test.YtpdlkdlciipdcaaCrcZerosW
import Derived.Deep.RegionWith
namespace Go.Proofs.Ytpdlkdlciipdcaa
open Go.RowKit Drum
set_option linter.unusedVariables false
/-- The first j strings, one behind the other. -/
def cat (D : Nat → List (BitVec 8)) : Nat → List (BitVec 8)
  | 0 => []
  | j + 1 => cat D j ++ D j
/-- What follows the first j of n strings. -/
def rest (D : Nat → List (BitVec 8)) (n j : Nat) : List (BitVec 8) := (cat D n).drop (cat D j).length
theorem cat_split (D : Nat → List (BitVec 8)) (n : Nat) : ∀ j, j ≤ n → cat D n = cat D j ++ rest D n j := by
  induction n with
  | zero =>
    intro j hj
    have : j = 0 := by omega
    subst this; rfl
  | succ n ih =>
    intro j hj
    by_cases h : j = n + 1
    · subst h; simp [rest]
    · have e := ih j (by omega)
      have hl : (cat D j).length ≤ (cat D (n + 1)).length := by
        show _ ≤ (cat D n ++ D n).length
        rw [e]; simp
      show _ = cat D j ++ (cat D (n + 1)).drop (cat D j).length
      have h2 : cat D (n + 1) = cat D j ++ (rest D n j ++ D n) := by
        show cat D n ++ D n = _
        conv => lhs; rw [e]
        rw [List.append_assoc]
      rw [h2, List.drop_left]
theorem rest_all (D : Nat → List (BitVec 8)) (n : Nat) : rest D n n = [] := by simp [rest]
theorem rest_zero (D : Nat → List (BitVec 8)) (n : Nat) : rest D n 0 = cat D n := by simp [rest, cat]
theorem rest_step (D : Nat → List (BitVec 8)) (n j : Nat) (h : j < n) : rest D n j = D j ++ rest D n (j + 1) := by
  have e1 := cat_split D n j (by omega)
  have e2 := cat_split D n (j + 1) (by omega)
  have e3 : cat D (j + 1) = cat D j ++ D j := rfl
  rw [e3, List.append_assoc] at e2
  exact List.append_cancel_left (e1.symm.trans e2)
theorem cat_length (D : Nat → List (BitVec 8)) (m n : Nat) (h : ∀ i, i < n → (D i).length ≤ m) : (cat D n).length ≤ n * m := by
  induction n with
  | zero => simp [cat]
  | succ n ih =>
    have := ih (fun i hi => h i (by omega))
    have := h n (by omega)
    simp only [cat, List.length_append, Nat.succ_mul]; omega
theorem rest_length (D : Nat → List (BitVec 8)) (n j : Nat) (h : j ≤ n) : (rest D n j).length ≤ (cat D n).length := by simp [rest]
/-- The strings that came in. -/
def IsParts (w : World) (A : Option Addr) (n : Nat) (xs : List Value) (D : Nat → List (BitVec 8)) : Prop :=
  Reads w w.heap.size 1 A n xs ∧ ∀ i, i < n → ∃ Ai ci, xs[i]? = some (.slice Ai (D i).length ci) ∧ (D i).length ≤ maxLen ∧ Reads w w.heap.size 1 Ai (D i).length (u8s (D i))
theorem u32_zero : Value.int .u32 (n32 (csum [])) = .int .u32 0 := by rw [s_nil]
set_option maxHeartbeats 4000000 in
set_option maxRecDepth 100000 in
theorem CrcParts_core (A : Option Addr) (n c : Nat) (xs : List Value) (D : Nat → List (BitVec 8)) (w : World) (hp : IsParts w A n xs D) (hn : n ≤ maxLen) :
    Calls Try.prog 7 #[.slice A n c] w fun e w' => e = .returned (.bool true) ∧ Below w.heap.size w w' := by
  unfold maxLen at hn
  have HP := Lib.hid hp
  clear hp
  by_cases hlen : 20 < n
  · go_enter Try.func7, Try.ntmps7
    go_wp2_with (go_at_call 13; refine (works_any _).mono ?_; rintro e w' ⟨rfl, hb⟩)
    go_ret
    exact ⟨rfl, hb⟩
  · have hlen' : n ≤ 20 := by omega
    obtain ⟨i0, hi0, hz0, hz1, hz2⟩ := info_parts u8_info
    go_enter Try.func7, Try.ntmps7
    go_wp2_with fail
    go_loopg [3, 4, 5, 6] n (fun k v3 v4 v5 v6 wr => ∃ (j : Nat), j + k = n ∧ v6 = .int .i64 j ∧ v4 = .int .u32 (n32 (csum (cat D j))) ∧ v5 = .int .u32 (n32 (csum (cat D j))) ∧
      wr.ownsRow w.heap.size 5 1 v3 (cat D j).length (u8s (cat D j)) ∧ (∀ i, i < j → (D i).length ≤ 200) ∧ Below w.heap.size w wr)
    case atStart => exact ⟨0, by omega, rfl, u32_zero.symm, u32_zero.symm, World.ownsRow_nil _ _ _ _, fun i h => absurd h (by omega), Below.refl _ _⟩
    case round =>
      obtain ⟨j, hj, rfl, rfl, rfl, hown, hshort, hbel⟩ := hrel
      have hj' : j ≤ n := by omega
      have HJ := Lib.hid hj
      have HO := Lib.hid hown
      have HS := Lib.hid hshort
      have HBE := Lib.hid hbel
      by_cases hlt : j < n
      · obtain ⟨ad, u, rfl, hadb, hx, hc0⟩ := HP.out.1.at_ hlt
        obtain ⟨Aj, cj, hxj, hmj, hrj⟩ := HP.out.2 j hlt
        rw [hx] at hxj
        obtain rfl := Option.some.inj hxj
        have hc : wr.cell? (ad.add j) = some (.slice Aj (D j).length cj) := by rw [hbel.cell (by rw [block_of_add]; exact hadb)]; exact hc0
        have HC0 := Lib.hid hc0
        have HRJ := Lib.hid hrj
        unfold maxLen at hmj
        have hcat := Lib.hid (show cat D (j + 1) = cat D j ++ D j from rfl)
        have hcl := cat_length D 200 j hshort
        clear hj hown hshort hbel hx hc0 hrj hxj
        by_cases hbig : 200 < (D j).length
        · generalize (D j).length = m at *
          generalize csum (cat D j) = s at *
          go_wp2_with (go_at_call 13; refine (works_any _).mono ?_; rintro e w' ⟨rfl, hb⟩)
          go_ret
          exact ⟨rfl, bt HBE.out hb⟩
        · have hbig' : (D j).length ≤ 200 := by omega
          have HSUM : Hid (csum (cat D (j + 1)) = cupd (csum (cat D j)) (D j)) := by show _ = _; rw [hcat.out]; exact cupd_append _ _ _
          have HCOMB : Hid (csum (cat D (j + 1)) = cshift (D j).length (csum (cat D j)) ^^^ csum (D j)) := by show _ = _; rw [hcat.out]; exact csum_append _ _
          have HLEN : Hid ((cat D j).length + (D j).length = (cat D (j + 1)).length) := by show _ = _; rw [hcat.out, List.length_append]
          have HRW := Lib.hid (HRJ.out.below HBE.out)
          have hmm : (D j).length = (D j).length := rfl
          generalize hm : (D j).length = m at *
          have HM := Lib.hid hm
          clear hm hmm
          go_wp2_with (at_builtin
                       refine wpList_append_g _ rfl (.tmp 32) (.tmp 36) _ rfl w.heap.size 5 i0 _ 1 1 Try.underlying22 hi0 hz0 hz1 hz2 rfl (by omega) u3 (cat D j).length (u8s (cat D j)) rfl
                         HO.out w.heap.size Aj m cj (u8s (D j)) rfl HRW.out (u8s_one _) (by simp only [maxLen]; omega) (by omega) HBE.out.size ?_
                       intro v1 w4 hown1 hg1 hat1
                       have hb4 : Below w.heap.size w w4 := HBE.out.grown hg1 HBE.out.size (fun q hq => (HO.out.lt q hq).1)
                       have hc4 : w4.cell? (ad.add j) = some (.slice Aj m cj) := by rw [hb4.cell (by rw [block_of_add]; exact hadb)]; exact HC0.out
                       have HO4 : Hid (w4.ownsRow w.heap.size 5 1 v1 (cat D (j + 1)).length (u8s (cat D (j + 1)))) := by rw [← HLEN.out, hcat.out, ← u8s_append]; exact hown1
                       have HB4 := Lib.hid hb4
                       clear hown1 hg1 hat1 hb4)
          refine (update_any _ _ m cj _ (D j) w4 (HRJ.out.below HB4.out) HB4.out.size HM.out.symm (by unfold maxLen; omega)).mono ?_
          rw [← HSUM.out]
          rintro e w5 ⟨rfl, hb5⟩
          have hc5 : w5.cell? (ad.add j) = some (.slice Aj m cj) := by rw [hb5.cell (by rw [block_of_add]; have := HB4.out.size; omega)]; exact hc4
          have HO5 := Lib.hid (own_below' HO4.out hb5)
          have HB5 := Lib.hid (bt HB4.out hb5)
          have hadb5 : ad.block < w5.heap.size := by have := HB5.out.size; omega
          clear hb5
          have S1 : Hid (∀ W, Below w5.heap.size w5 W → Calls Try.prog 15 #[.slice Aj m cj] W fun e w' => e = .returned (.int .u32 (n32 (csum (D j)))) ∧ w'.cell? (ad.add j) = some (.slice Aj m cj) ∧ Below w5.heap.size w5 w') := fun W hW =>
            (sum_any _ _ _ _ (D j) _ (HRJ.out.below (HB5.out.trans (hW.mono HB5.out.size))) (by have := hW.size; have := HB5.out.size; omega) HM.out.symm (by unfold maxLen; omega)).mono fun e w' ⟨h1, h2⟩ =>
              ⟨h1, by rw [h2.cell (by rw [block_of_add]; have := hW.size; omega), hW.cell (by rw [block_of_add]; exact hadb5)]; exact hc5, bt hW h2⟩
          have S2 : Hid (∀ W, Below w5.heap.size w5 W → Calls Try.prog 19 #[.int .u32 (n32 (csum (cat D j))), .int .u32 (n32 (csum (D j))), .int .i64 (m : Int)] W fun e w' => e = .returned (.tuple #[.int .u32 (n32 (csum (cat D (j + 1)))), .int .i64 0]) ∧ w'.cell? (ad.add j) = some (.slice Aj m cj) ∧ Below w5.heap.size w5 w') := fun W hW =>
            (combine_any _ _ (m : Int) (by omega) (by omega) _).mono fun e w' ⟨h1, h2⟩ =>
              ⟨by rw [h1, Int.toNat_natCast, ← HCOMB.out], by rw [h2.cell (by rw [block_of_add]; have := hW.size; omega), hW.cell (by rw [block_of_add]; exact hadb5)]; exact hc5, bt hW h2⟩
          go_wp2_with fail
          go_region_with (first
            | (go_at_call 15; refine (S1.out _ (by first | assumption | exact (Below.refl _ _).drew)).mono ?_; rintro e w6 ⟨rfl, hcx, hk⟩)
            | (go_at_call 19; refine (S2.out _ (by first | assumption | exact (Below.refl _ _).drew)).mono ?_; rintro e w6 ⟨rfl, hcx, hk⟩))
          all_goals
            go_wp2
            go_roundg (gk - 1)
            case measure => have := HJ.out; omega
            case rel =>
              refine ⟨j + 1, by have := HJ.out; omega, by go_num, rfl, rfl, own_below' HO5.out hk, fun i hi => ?_, bt HB5.out hk⟩
              rcases Nat.lt_or_ge i j with h | h
              · exact HS.out i h
              · have : i = j := by omega
                subst this; rw [HM.out]; exact hbig'
      · have e8 : j = n := by omega
        subst e8
        have hcl := cat_length D 200 j hshort
        have hrest := fun i hi => rest_length D j i hi
        have HREST := Lib.hid hrest
        clear hj hown hshort hbel hrest hlt
        obtain ⟨wo, rfl⟩ : ∃ wo : World, wo = wr := ⟨_, rfl⟩
        obtain ⟨go, rfl⟩ : ∃ go : Nat, go = gk := ⟨_, rfl⟩
        generalize hL : (cat D j).length = L at *
        have HL := Lib.hid hL
        have hjn : -9223372036854775808 ≤ (j : Int) - 1 := by omega
        clear hL
        go_wp2_with fail
        go_loopg [9, 10, 11] j (fun k v9 v10 v11 wr => ∃ (q : Int), q = (k : Int) - 1 ∧ k ≤ j ∧ v11 = .int .i64 q ∧ v9 = .int .u32 (n32 (csum (rest D j k))) ∧ v10 = .int .i64 ((rest D j k).length : Nat) ∧ Below wo.heap.size wo wr)
        case atStart =>
          refine ⟨_, rfl, Nat.le_refl _, rfl, ?_, ?_, Below.refl _ _⟩
          · rw [rest_all]; exact u32_zero.symm
          · rw [rest_all]; rfl
        case round =>
          obtain ⟨q, hq, hkj, rfl, rfl, rfl, hb⟩ := hrel
          have HB := Lib.hid (bt HBE.out hb)
          have HBW := Lib.hid hb
          rcases Nat.eq_zero_or_pos gk with h0 | hpos
          · subst h0
            obtain rfl : q = -1 := by omega
            have HO2 := Lib.hid (own_below' HO.out hb)
            clear hq hb
            rw [rest_zero]
            go_wp2_with fail
            refine (sum_own HO2.out).mono ?_
            rintro e w5 ⟨rfl, hb5⟩
            have HB5 := Lib.hid (bt HB.out hb5)
            have HO5 := Lib.hid (own_below' HO2.out hb5)
            clear hb5
            go_wp2_with fail
            refine (valid_own (csum (cat D j)) HO5.out).mono ?_
            rw [decide_eq_true (rfl : csum (cat D j) = csum (cat D j))]
            rintro e w6 ⟨rfl, hb6⟩
            have HB6 := Lib.hid (bt HB5.out hb6)
            clear hb6
            go_wp2_with fail
            refine (works_any _).mono ?_
            rintro e w8 ⟨rfl, hb8⟩
            go_wp2
            go_ret
            exact ⟨rfl, bt HB6.out hb8⟩
          · obtain ⟨i, hi⟩ : ∃ i, gk = i + 1 := ⟨gk - 1, by omega⟩
            subst hi
            obtain rfl : q = (i : Int) := by omega
            have hij : i < j := by omega
            obtain ⟨ad, u, rfl, hadb, hx, hc0⟩ := HP.out.1.at_ hij
            obtain ⟨Ai, ci, hxi, hmi, hri⟩ := HP.out.2 i hij
            rw [hx] at hxi
            obtain rfl := Option.some.inj hxi
            have hc : wr.cell? (ad.add i) = some (.slice Ai (D i).length ci) := by rw [HB.out.cell (by rw [block_of_add]; exact hadb)]; exact hc0
            have HC0 := Lib.hid hc0
            have HRI := Lib.hid hri
            have HSHORT := Lib.hid (HS.out i hij)
            have hm200 := HS.out i hij
            have hR1 := HREST.out (i + 1) (by omega)
            have hstep := rest_step D j i hij
            have HCS : Hid (csum (rest D j i) = cshift (rest D j (i + 1)).length (csum (D i)) ^^^ csum (rest D j (i + 1))) := by show _ = _; rw [hstep]; exact csum_append _ _
            have HLN : Hid ((rest D j i).length = (rest D j (i + 1)).length + (D i).length) := by show _ = _; rw [hstep, List.length_append]; omega
            unfold maxLen at hmi
            clear hq hb hx hxi hc0 hri hstep
            generalize hm : (D i).length = m at *
            have HM := Lib.hid hm
            clear hm
            generalize (rest D j (i + 1)).length = t at *
            go_wp2_with fail
            refine (sum_any _ _ _ _ (D i) wr (HRI.out.below HB.out) HB.out.size HM.out.symm (by unfold maxLen; omega)).mono ?_
            rintro e w5 ⟨rfl, hb5⟩
            have HB5 := Lib.hid (bt HB.out hb5)
            have HBW5 := Lib.hid (bt HBW.out hb5)
            clear hb5
            go_wp2_with fail
            refine (combine_any _ _ (t : Int) (by omega) (by omega) _).mono ?_
            rw [Int.toNat_natCast, ← HCS.out]
            rintro e w6 ⟨rfl, hb6⟩
            have HB6 := Lib.hid (bt HB5.out hb6)
            have HBW6 := Lib.hid (bt HBW5.out hb6)
            have hc6 : w6.cell? (ad.add i) = some (.slice Ai m ci) := by rw [HB6.out.cell (by rw [block_of_add]; exact hadb)]; exact HC0.out
            clear hb6
            go_wp2_with fail
            go_roundg i
            case measure => omega
            case rel =>
              refine ⟨(i : Int) - 1, rfl, by omega, rfl, rfl, ?_, HBW6.out⟩
              rw [HLN.out]; go_num
theorem CrcParts_walk (v0 : Value) (w : World) (h0 : ArgIn Try.prog w 37 v0) :
    Calls Try.prog 7 #[v0] w fun e w' => e = .returned (.bool true) ∧ Below w.heap.size w w' := by
  have hs1 : Try.prog.cellsOf 22 = 1 := by kernel_rfl
  have hs2 : Try.prog.cellsOf 5 = 1 := by kernel_rfl
  obtain ⟨A, n, c, xs, rfl, hnc, hcm, hr, hel⟩ := h0.slice Try.underlying37 (by rw [hs1]; omega)
  have hxl := hr.1
  have key : ∀ i, i < n → ∃ l : List (BitVec 8), ∃ Ai ci, xs[i]? = some (.slice Ai l.length ci) ∧ l.length ≤ maxLen ∧ Reads w w.heap.size 1 Ai l.length (u8s l) := by
    intro i hi
    obtain ⟨x, hx, hrd⟩ := Rd.elem hs1 hxl hi (hel i hi)
    obtain ⟨Ai, ni, ci, zs, hcs, h1, h2, h3, h4⟩ := hrd.slice Try.underlying22 (by rw [hs2]; omega)
    injection hcs with hcs _
    rw [hs2] at h3 h4
    have hzl := h3.1
    have hz : ∃ l, zs = u8s l := by
      refine bytes_of_all zs fun k hk => ?_
      obtain ⟨y, hy, hrd2⟩ := Rd.elem hs2 (by rw [hs2]; exact hzl) (by omega : k < ni) (by rw [hs2]; exact h4 k (by omega))
      obtain ⟨q, hq, hw⟩ := hrd2.int Try.underlying5
      injection hq with hq _
      obtain ⟨b, rfl⟩ := u8_of_wf hw
      exact ⟨b, by rw [hy, hq]⟩
    obtain ⟨l, rfl⟩ := hz
    rw [u8s_length, Nat.mul_one] at hzl
    subst hzl
    exact ⟨l, Ai, ci, by rw [hx, hcs], Nat.le_trans h1 h2, h3⟩
  have key2 : ∀ i, ∃ l : List (BitVec 8), i < n → ∃ Ai ci, xs[i]? = some (.slice Ai l.length ci) ∧ l.length ≤ maxLen ∧ Reads w w.heap.size 1 Ai l.length (u8s l) := by
    intro i
    by_cases hi : i < n
    · obtain ⟨l, h⟩ := key i hi; exact ⟨l, fun _ => h⟩
    · exact ⟨[], fun h => absurd h hi⟩
  obtain ⟨D, hD⟩ := Classical.axiomOfChoice key2
  rw [hs1] at hr
  exact CrcParts_core A n c xs D w ⟨hr, hD⟩ (Nat.le_trans hnc hcm)
end Go.Proofs.Ytpdlkdlciipdcaa

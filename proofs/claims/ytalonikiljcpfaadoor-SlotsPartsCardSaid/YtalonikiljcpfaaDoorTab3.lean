/-
  A table's methods that move a slot: move, take, TakeActive, TakeOutput, change, Seal, Choose, Drop, Load. Conditions: the table is as New makes it; the package's variables and the library's table hold what their texts list.
-/
import Derived.Test.YtalonikiljcpfaaDoorTab2
namespace Go.Proofs.YtalonikiljcpfaaDoor
open Go.RowKit
set_option linter.unusedVariables false
/-- A table has turned, in its own blocks alone. -/
def TabTo (w w' : World) (g : Nat) (p : Nat → Nat) (r : Nat) (T : List Nat) : Prop := IsTab w' g p r T ∧ Chg (tfoot g p) w w'
section
variable {w w' w1 : World} {g : Nat} {p : Nat → Nat} {r : Nat} {T : List Nat}
theorem TabTo.refl (h : IsTab w g p r T) (hb : Below w.heap.size w w') : TabTo w w' g p r T := ⟨h.below hb, Chg.of_below hb⟩
set_option maxHeartbeats 2000000 in
theorem tmove (h : IsTab w g p r T) (i : Nat) (hi : i < T.length) (fr to : Nat) (hf : T[i] = fr) (ht : to < 5) (hne : fr ≠ to) :
    Calls Tryd.prog 61 #[.pointer (some ⟨g, 0, none⟩), .int .i64 (i : Int), .int .i64 (fr : Int), .int .i64 (to : Int)] w fun e w' => (∃ v, e = .returned v) ∧ TabTo w w' g p r (T.set i to) := by
  have hf5 : fr < 5 := by rw [← hf]; exact h.all _ (List.getElem_mem hi)
  have q0 := h.cellP fr hf5
  have q1 : w.cell? ⟨g, 2 + to, none⟩ = some (.pointer (some ⟨p to, 0, none⟩)) := h.cellP to ht
  have HR := Lib.hid (remove_of (h.set fr hf5) i (by rw [memb_length]; exact hi))
  have H := Lib.hid h
  have HF := Lib.hid hf
  have hg := h.off fr hf5
  have hap := h.apart fr to hf5 ht hne
  clear h hf
  go_enter Tryd.func61, Tryd.ntmps61
  go_wp2_with fail
  refine HR.out.mono ?_
  rintro e w1 ⟨rfl, hs1, hc1⟩
  have HS1 := Lib.hid hs1
  have HC1 := Lib.hid hc1
  have q2 : w1.cell? ⟨g, 2 + to, none⟩ = some (.pointer (some ⟨p to, 0, none⟩)) := by
    rw [← q1]
    exact World.cell?_of_block (hc1.block g H.out.blk.lt (fun e => hg e.symm))
  have hst : HasSet w1 (p to) (memb T to) := (H.out.set to ht).keep hc1 (fun e => hap e.symm)
  have HA := Lib.hid (add_of hst i (by rw [memb_length]; exact hi))
  clear hs1 hc1 q0 q1 hst
  go_wp2_with fail
  refine HA.out.mono ?_
  rintro e w2 ⟨rfl, hs2, hc2⟩
  have HS2 := Lib.hid hs2
  have HC2 := Lib.hid hc2
  clear hs2 hc2
  go_wp2_with fail
  go_end0
  obtain ⟨t1, t2, t3, t4, t5, t6, t7, t8⟩ := H.out
  have hl : (T.set i to).length = T.length := List.length_set
  refine ⟨⟨_, rfl⟩, ⟨?_, fun s hs => ?_, t3, t4, by rw [hl]; exact t5, by rw [hl]; exact t6, by rw [hl]; exact t7, fun x hx => ?_⟩, (HC1.out.mono (fun k _ hk => .inr ⟨fr, hf5, hk⟩)).trans HC2.out (fun k _ hk => .inr ⟨to, ht, hk⟩)⟩
  · rw [hl]
    exact (t1.chg HC1.out (fun e => hg e.symm)).chg HC2.out (fun e => t3 to ht e.symm)
  · by_cases e : s = to
    · subst e; rw [memb_to]; exact HS2.out
    · by_cases e2 : s = fr
      · subst e2; rw [memb_from hne]; exact HS1.out.keep HC2.out hap
      · rw [memb_same e hi (by rw [HF.out]; omega)]
        exact ((t2 s hs).keep HC1.out (t4 s fr hs hf5 e2)).keep HC2.out (t4 s to hs ht e)
  · rcases List.mem_or_eq_of_mem_set hx with e | e
    · exact t8 x e
    · omega
/-- What a change of one slot leads to. -/
def ChgR (w w' : World) (g : Nat) (p : Nat → Nat) (r : Nat) (T : List Nat) (bx : Bool) (to i n3 : Nat) (c : Int) : Prop :=
  (bx = false ∧ c = 7 ∧ TabTo w w' g p r T) ∨ (bx = true ∧ to = 3 ∧ 0 < n3 ∧ c = 6 ∧ TabTo w w' g p r T) ∨ (bx = true ∧ ¬ (to = 3 ∧ 0 < n3) ∧ c = 0 ∧ TabTo w w' g p r (T.set i to))
/-- A change of states, as the program passes it. -/
def chgV (b : Nat → Bool) (to : Nat) : Value := .agg #[.bool (b 0), .bool (b 1), .bool (b 2), .bool (b 3), .bool (b 4), .int .i64 (to : Int)]
set_option maxRecDepth 100000 in
set_option maxHeartbeats 4000000 in
theorem tchange_range (h : IsTab w g p r T) (b : Nat → Bool) (to : Nat) (i : Int) (hi : i < 0 ∨ (T.length : Int) ≤ i) :
    Calls Tryd.prog 41 #[.pointer (some ⟨g, 0, none⟩), .int .i64 i, chgV b to] w fun e w' => e = .returned (.int .i64 3) ∧ TabTo w w' g p r T := by
  have H := Lib.hid h
  have HI := Lib.hid hi
  clear h hi
  unfold chgV
  go_enter Tryd.func41, Tryd.ntmps41
  go_wp2_with fail
  refine (tstate_out (H.out.below ((Below.refl _ _).alloc (Nat.le_refl _) _)) i HI.out).mono ?_
  rintro e w1 ⟨rfl, rfl⟩
  go_wp2_with fail
  go_ret
  exact ⟨rfl, TabTo.refl H.out ((Below.refl _ _).alloc (Nat.le_refl _) _)⟩
set_option maxRecDepth 100000 in
set_option maxHeartbeats 4000000 in
theorem tchange_in (h : IsTab w g p r T) (b : Nat → Bool) (to : Nat) (ht : to < 5) (i : Nat) (hi : i < T.length) (hb : b T[i] = true → T[i] ≠ to) :
    Calls Tryd.prog 41 #[.pointer (some ⟨g, 0, none⟩), .int .i64 (i : Int), chgV b to] w fun e w' => ∃ c, e = .returned (.int .i64 c) ∧ ChgR w w' g p r T (b T[i]) to i (cnt T 3) c := by
  obtain ⟨x, hx⟩ : ∃ x, T[i] = x := ⟨_, rfl⟩
  have hx5 : x < 5 := by rw [← hx]; exact h.all _ (List.getElem_mem hi)
  have HX := Lib.hid hx
  obtain ⟨W, hW⟩ : ∃ W, W = w.alloc (.cells #[.bool (b 0), .bool (b 1), .bool (b 2), .bool (b 3), .bool (b 4), .int .i64 (to : Int)] 75) := ⟨_, rfl⟩
  have hbl : Below w.heap.size w W := by rw [hW]; exact (Below.refl _ _).alloc (Nat.le_refl _) _
  have hk : Blk W w.heap.size 75 #[.bool (b 0), .bool (b 1), .bool (b 2), .bool (b 3), .bool (b 4), .int .i64 (to : Int)] := by rw [hW]; exact Blk.new _ _ _
  have c5 : W.cell? ⟨w.heap.size, 5, none⟩ = some (.int .i64 (to : Int)) := hk.cell 5
  have cx : W.cell? ⟨w.heap.size, x, none⟩ = some (.bool (b x)) := by
    have : x = 0 ∨ x = 1 ∨ x = 2 ∨ x = 3 ∨ x = 4 := by omega
    rcases this with rfl | rfl | rfl | rfl | rfl
    · exact hk.cell 0
    · exact hk.cell 1
    · exact hk.cell 2
    · exact hk.cell 3
    · exact hk.cell 4
  have H := Lib.hid (h.below hbl)
  have H0 := Lib.hid h
  have HBL := Lib.hid hbl
  have q3 := (h.below hbl).cellP 3 (by omega)
  have HL := Lib.hid (len_of ((h.below hbl).set 3 (by omega)))
  obtain ⟨c3, hc3⟩ : ∃ c3, (slotsOf (memb T 3)).length = c3 := ⟨_, rfl⟩
  have hc34 : c3 ≤ 32 := by rw [← hc3]; exact Nat.le_trans (slotsOf_le _) (by rw [memb_length]; exact h.le)
  have hcnt : cnt T 3 = c3 := hc3
  rw [hcnt]
  rw [hc3] at HL
  rw [hx] at hb ⊢
  have HBB := Lib.hid hb
  have HWW := Lib.hid hW
  have HST := Lib.hid (tstate_in H.out i hi)
  rw [HX.out] at HST
  clear h hbl hk hx hc3 hcnt hb
  unfold chgV
  go_enter Tryd.func41, Tryd.ntmps41
  go_wp2_with fail
  rw [← hW]
  clear hW
  refine HST.out.mono ?_
  rintro e w1 ⟨rfl, rfl⟩
  cases hbx : b x with
  | false =>
    rw [hbx] at cx
    have HBX := Lib.hid hbx
    clear hbx
    go_wp2_with fail
    go_ret
    exact ⟨7, rfl, .inl ⟨HBX.out, rfl, TabTo.refl H0.out HBL.out⟩⟩
  | true =>
    rw [hbx] at cx
    have HBX := Lib.hid hbx
    clear hbx
    by_cases h3 : to = 3 ∧ 0 < c3
    · obtain ⟨rfl, hc⟩ := h3
      go_wp2_with fail
      refine HL.out.mono ?_
      rintro e w1 ⟨rfl, rfl⟩
      go_wp2_with fail
      go_ret
      exact ⟨6, rfl, .inr (.inl ⟨HBX.out, rfl, hc, rfl, TabTo.refl H0.out HBL.out⟩)⟩
    · have HMV := Lib.hid (tmove H.out i hi x to HX.out ht (HBB.out HBX.out))
      have H3 := Lib.hid h3
      by_cases h4 : to = 3
      · have hc0 : ¬ 0 < c3 := fun hc => h3 ⟨h4, hc⟩
        have hc00 : c3 = 0 := by omega
        subst h4
        subst hc00
        clear h3 hc0
        go_wp2_with fail
        refine HL.out.mono ?_
        rintro e w1 ⟨rfl, rfl⟩
        go_wp2_with fail
        refine HMV.out.mono ?_
        rintro e w2 ⟨⟨v, rfl⟩, hs⟩
        have HS := Lib.hid hs
        clear hs
        go_wp2_with fail
        go_ret
        exact ⟨0, rfl, .inr (.inr ⟨HBX.out, (fun h => by have := H3.out; omega), rfl, HS.out.1, (Chg.of_below HBL.out).trans HS.out.2 (fun _ _ h => h)⟩)⟩
      · have h40 : ((to : Int) == 3) = false := by simp; omega
        clear h3
        go_wp2_with fail
        refine HMV.out.mono ?_
        rintro e w2 ⟨⟨v, rfl⟩, hs⟩
        have HS := Lib.hid hs
        clear hs
        go_wp2_with fail
        go_ret
        exact ⟨0, rfl, .inr (.inr ⟨HBX.out, (fun h => by have := H3.out; omega), rfl, HS.out.1, (Chg.of_below HBL.out).trans HS.out.2 (fun _ _ h => h)⟩)⟩
/-- A package variable that holds a change. -/
def ChgIn (w : World) (q : Nat) (b : Nat → Bool) (to : Nat) : Prop :=
  w.cell? ⟨q, 0, none⟩ = some (.bool (b 0)) ∧ w.cell? ⟨q, 1, none⟩ = some (.bool (b 1)) ∧ w.cell? ⟨q, 2, none⟩ = some (.bool (b 2)) ∧ w.cell? ⟨q, 3, none⟩ = some (.bool (b 3)) ∧ w.cell? ⟨q, 4, none⟩ = some (.bool (b 4)) ∧ w.cell? ⟨q, 5, none⟩ = some (.int .i64 (to : Int))
def sealB : Nat → Bool := fun s => s == 1 || s == 4
def chooseB : Nat → Bool := fun s => s == 2
def dropB : Nat → Bool := fun s => s == 2 || s == 3
def loadB : Nat → Bool := fun s => s == 0
/-- What the program and the library lay. -/
structure LaidIn (w : World) : Prop where
  tab : TabIn w
  sl : ChgIn w 0 sealB 2
  ch : ChgIn w 1 chooseB 3
  dr : ChgIn w 2 dropB 0
  ld : ChgIn w 3 loadB 2
  big : 5 ≤ w.heap.size
theorem ChgIn.below {w w' : World} {q to B : Nat} {b : Nat → Bool} (h : ChgIn w q b to) (hb : Below B w w') (hq : q < B) : ChgIn w' q b to :=
  ⟨(hb.cell (p := ⟨q, 0, none⟩) hq).trans h.1, (hb.cell (p := ⟨q, 1, none⟩) hq).trans h.2.1, (hb.cell (p := ⟨q, 2, none⟩) hq).trans h.2.2.1, (hb.cell (p := ⟨q, 3, none⟩) hq).trans h.2.2.2.1, (hb.cell (p := ⟨q, 4, none⟩) hq).trans h.2.2.2.2.1, (hb.cell (p := ⟨q, 5, none⟩) hq).trans h.2.2.2.2.2⟩
theorem LaidIn.below {w w' : World} {B : Nat} (h : LaidIn w) (hb : Below B w w') (hB : 5 ≤ B) : LaidIn w' :=
  ⟨h.tab.below hb (by omega), h.sl.below hb (by omega), h.ch.below hb (by omega), h.dr.below hb (by omega), h.ld.below hb (by omega), Nat.le_trans h.big hb.size⟩
set_option maxHeartbeats 1000000 in
theorem tseal_range (h : IsTab w g p r T) (hl : LaidIn w) (i : Int) (hi : i < 0 ∨ (T.length : Int) ≤ i) :
    Calls Tryd.prog 17 #[.pointer (some ⟨g, 0, none⟩), .int .i64 i] w fun e w' => e = .returned (.int .i64 3) ∧ TabTo w w' g p r T := by
  obtain ⟨c0, c1, c2, c3, c4, c5⟩ := hl.sl
  have HC := Lib.hid (tchange_range h sealB 2 i hi)
  unfold chgV at HC
  clear h hl hi
  go_enter Tryd.func17, Tryd.ntmps17
  go_wp2_with fail
  refine HC.out.mono ?_
  rintro e w1 ⟨rfl, hs⟩
  have HS := Lib.hid hs
  clear hs c0 c1 c2 c3 c4 c5
  go_wp2_with fail
  go_ret
  exact ⟨rfl, HS.out⟩
set_option maxHeartbeats 1000000 in
theorem tseal_in (h : IsTab w g p r T) (hl : LaidIn w) (i : Nat) (hi : i < T.length) :
    Calls Tryd.prog 17 #[.pointer (some ⟨g, 0, none⟩), .int .i64 (i : Int)] w fun e w' => ∃ c, e = .returned (.int .i64 c) ∧ ChgR w w' g p r T (sealB T[i]) 2 i (cnt T 3) c := by
  obtain ⟨c0, c1, c2, c3, c4, c5⟩ := hl.sl
  have HC := Lib.hid (tchange_in h sealB 2 (by omega) i hi (by unfold sealB; simp; try omega))
  unfold chgV at HC
  obtain ⟨cb, hcb⟩ : ∃ cb, sealB T[i] = cb := ⟨_, rfl⟩
  rw [hcb] at HC ⊢
  clear h hl hcb
  go_enter Tryd.func17, Tryd.ntmps17
  go_wp2_with fail
  refine HC.out.mono ?_
  rintro e w1 ⟨c, rfl, hs⟩
  have HS := Lib.hid hs
  clear hs c0 c1 c2 c3 c4 c5
  go_wp2_with fail
  go_ret
  exact ⟨c, rfl, HS.out⟩
set_option maxHeartbeats 1000000 in
theorem tchoose_range (h : IsTab w g p r T) (hl : LaidIn w) (i : Int) (hi : i < 0 ∨ (T.length : Int) ≤ i) :
    Calls Tryd.prog 18 #[.pointer (some ⟨g, 0, none⟩), .int .i64 i] w fun e w' => e = .returned (.int .i64 3) ∧ TabTo w w' g p r T := by
  obtain ⟨c0, c1, c2, c3, c4, c5⟩ := hl.ch
  have HC := Lib.hid (tchange_range h chooseB 3 i hi)
  unfold chgV at HC
  clear h hl hi
  go_enter Tryd.func18, Tryd.ntmps18
  go_wp2_with fail
  refine HC.out.mono ?_
  rintro e w1 ⟨rfl, hs⟩
  have HS := Lib.hid hs
  clear hs c0 c1 c2 c3 c4 c5
  go_wp2_with fail
  go_ret
  exact ⟨rfl, HS.out⟩
set_option maxHeartbeats 1000000 in
theorem tchoose_in (h : IsTab w g p r T) (hl : LaidIn w) (i : Nat) (hi : i < T.length) :
    Calls Tryd.prog 18 #[.pointer (some ⟨g, 0, none⟩), .int .i64 (i : Int)] w fun e w' => ∃ c, e = .returned (.int .i64 c) ∧ ChgR w w' g p r T (chooseB T[i]) 3 i (cnt T 3) c := by
  obtain ⟨c0, c1, c2, c3, c4, c5⟩ := hl.ch
  have HC := Lib.hid (tchange_in h chooseB 3 (by omega) i hi (by unfold chooseB; simp; try omega))
  unfold chgV at HC
  obtain ⟨cb, hcb⟩ : ∃ cb, chooseB T[i] = cb := ⟨_, rfl⟩
  rw [hcb] at HC ⊢
  clear h hl hcb
  go_enter Tryd.func18, Tryd.ntmps18
  go_wp2_with fail
  refine HC.out.mono ?_
  rintro e w1 ⟨c, rfl, hs⟩
  have HS := Lib.hid hs
  clear hs c0 c1 c2 c3 c4 c5
  go_wp2_with fail
  go_ret
  exact ⟨c, rfl, HS.out⟩
set_option maxHeartbeats 1000000 in
theorem tdrop_range (h : IsTab w g p r T) (hl : LaidIn w) (i : Int) (hi : i < 0 ∨ (T.length : Int) ≤ i) :
    Calls Tryd.prog 19 #[.pointer (some ⟨g, 0, none⟩), .int .i64 i] w fun e w' => e = .returned (.int .i64 3) ∧ TabTo w w' g p r T := by
  obtain ⟨c0, c1, c2, c3, c4, c5⟩ := hl.dr
  have HC := Lib.hid (tchange_range h dropB 0 i hi)
  unfold chgV at HC
  clear h hl hi
  go_enter Tryd.func19, Tryd.ntmps19
  go_wp2_with fail
  refine HC.out.mono ?_
  rintro e w1 ⟨rfl, hs⟩
  have HS := Lib.hid hs
  clear hs c0 c1 c2 c3 c4 c5
  go_wp2_with fail
  go_ret
  exact ⟨rfl, HS.out⟩
set_option maxHeartbeats 1000000 in
theorem tdrop_in (h : IsTab w g p r T) (hl : LaidIn w) (i : Nat) (hi : i < T.length) :
    Calls Tryd.prog 19 #[.pointer (some ⟨g, 0, none⟩), .int .i64 (i : Int)] w fun e w' => ∃ c, e = .returned (.int .i64 c) ∧ ChgR w w' g p r T (dropB T[i]) 0 i (cnt T 3) c := by
  obtain ⟨c0, c1, c2, c3, c4, c5⟩ := hl.dr
  have HC := Lib.hid (tchange_in h dropB 0 (by omega) i hi (by unfold dropB; simp; try omega))
  unfold chgV at HC
  obtain ⟨cb, hcb⟩ : ∃ cb, dropB T[i] = cb := ⟨_, rfl⟩
  rw [hcb] at HC ⊢
  clear h hl hcb
  go_enter Tryd.func19, Tryd.ntmps19
  go_wp2_with fail
  refine HC.out.mono ?_
  rintro e w1 ⟨c, rfl, hs⟩
  have HS := Lib.hid hs
  clear hs c0 c1 c2 c3 c4 c5
  go_wp2_with fail
  go_ret
  exact ⟨c, rfl, HS.out⟩
set_option maxHeartbeats 1000000 in
theorem tload_range (h : IsTab w g p r T) (hl : LaidIn w) (i : Int) (hi : i < 0 ∨ (T.length : Int) ≤ i) :
    Calls Tryd.prog 20 #[.pointer (some ⟨g, 0, none⟩), .int .i64 i] w fun e w' => e = .returned (.int .i64 3) ∧ TabTo w w' g p r T := by
  obtain ⟨c0, c1, c2, c3, c4, c5⟩ := hl.ld
  have HC := Lib.hid (tchange_range h loadB 2 i hi)
  unfold chgV at HC
  clear h hl hi
  go_enter Tryd.func20, Tryd.ntmps20
  go_wp2_with fail
  refine HC.out.mono ?_
  rintro e w1 ⟨rfl, hs⟩
  have HS := Lib.hid hs
  clear hs c0 c1 c2 c3 c4 c5
  go_wp2_with fail
  go_ret
  exact ⟨rfl, HS.out⟩
set_option maxHeartbeats 1000000 in
theorem tload_in (h : IsTab w g p r T) (hl : LaidIn w) (i : Nat) (hi : i < T.length) :
    Calls Tryd.prog 20 #[.pointer (some ⟨g, 0, none⟩), .int .i64 (i : Int)] w fun e w' => ∃ c, e = .returned (.int .i64 c) ∧ ChgR w w' g p r T (loadB T[i]) 2 i (cnt T 3) c := by
  obtain ⟨c0, c1, c2, c3, c4, c5⟩ := hl.ld
  have HC := Lib.hid (tchange_in h loadB 2 (by omega) i hi (by unfold loadB; simp; try omega))
  unfold chgV at HC
  obtain ⟨cb, hcb⟩ : ∃ cb, loadB T[i] = cb := ⟨_, rfl⟩
  rw [hcb] at HC ⊢
  clear h hl hcb
  go_enter Tryd.func20, Tryd.ntmps20
  go_wp2_with fail
  refine HC.out.mono ?_
  rintro e w1 ⟨c, rfl, hs⟩
  have HS := Lib.hid hs
  clear hs c0 c1 c2 c3 c4 c5
  go_wp2_with fail
  go_ret
  exact ⟨c, rfl, HS.out⟩
end
end Go.Proofs.YtalonikiljcpfaaDoor

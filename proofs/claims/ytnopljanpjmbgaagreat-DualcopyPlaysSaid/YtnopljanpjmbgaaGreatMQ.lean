/-
  The walk of the dualcopy law's works.
-/
import Derived.Test.YtnopljanpjmbgaaGreatMP
import Derived.Deep.RegionHeld3
import Derived.Deep.DeepCutAuto
namespace Go.Proofs.YtnopljanpjmbgaaGreat
open Go.RowKit Go.Shelf Drum
set_option linter.unusedVariables false
theorem four_any (w : World) :
    Calls Tryz.prog 50 #[] w fun e w' => e = .returned (.agg #[.int .i64 4, .int .i64 128, .int .i64 2, .int .i64 200, .int .i64 8, .int .i64 16, .int .i64 1]) ∧ Below w.heap.size w w' := by
  go_enter Tryz.func50, Tryz.ntmps50
  go_wp2_with fail
  exact bodyPost_ret (results_blk rfl _ _ w.heap.size 26 #[.int .i64 4, .int .i64 128, .int .i64 2, .int .i64 200, .int .i64 8, .int .i64 16, .int .i64 1] _ rfl (Blk.new w _ _) Tryz.underlying26 rfl (by kernel_rfl)) rfl ⟨rfl, by go_grown⟩
theorem armX_ops0 (X : DevD) (at_ : Int) (dn : Bool) (keep : List Int) : (armX X at_ dn keep).ops = X.ops := by
  unfold armX
  split
  · split <;> rfl
  · rfl
section
variable {B : Nat} {w0 w : World} {os : List Ob} {v : Nat} {L : DLay} {X Y : DevD}
/-- The calls of the examples, with what they answer. -/
theorem wk_read (h : Sep B w0 w (devOb v L X :: os)) (re : Int) (ri : Nat) (b : Bk) (hr : readX X = (re, ri, b)) :
    Calls Tryz.prog 8 #[.pointer (some ⟨v, 0, none⟩)] w fun e w' => e = .returned (.tuple #[.agg (bkv b), .int .i64 (ri : Int), .int .i64 re]) ∧ Sep B w0 w' (devOb v L X :: os) :=
  (read_lit h.dev re ri b hr).mono fun e w' ⟨h1, h2⟩ => ⟨h1, h.below h2⟩
theorem wk_begin (h : Sep B w0 w (devOb v L X :: os)) (hC : AllCells os) (hops : X.ops ≤ 1000) (c : Cf) (hc : c.wf) (er : Int) (hr : beginX X c = (er, Y)) :
    Calls Tryz.prog 18 #[.pointer (some ⟨v, 0, none⟩), .agg #[.int .i64 c.slots, .int .i64 c.size, .int .i64 c.reserve, .int .i64 c.work, .int .i64 c.key, .int .i64 c.value, .int .i64 c.policy]] w fun e w' => e = .returned (.int .i64 er) ∧ ∃ L', Sep B w0 w' (devOb v L' Y :: os) := by
  have := sep_dbegin h hC (by omega) c hc
  rw [hr] at this
  exact this
theorem wk_adv (h : Sep B w0 w (devOb v L X :: os)) (hC : AllCells os) (hops : X.ops ≤ 1000) (p er : Int) (b : Bk) (hr : advX X p = (er, b, Y)) :
    Calls Tryz.prog 10 #[.pointer (some ⟨v, 0, none⟩), .int .i64 p] w fun e w' => e = .returned (.tuple #[.agg (bkv b), .int .i64 er]) ∧ ∃ L', Sep B w0 w' (devOb v L' Y :: os) := by
  have := sep_dadv h hC (by omega) p
  rw [hr] at this
  exact this
end
set_option maxRecDepth 100000 in
set_option maxHeartbeats 16000000 in
theorem works_any (w : World) :
    Calls Tryz.prog 15 #[] w fun e w' => e = .returned (.bool true) ∧ Below w.heap.size w w' := by
  obtain ⟨X1, X2, X4, X6, K⟩ := wks
  have HK := Lib.hid K
  have hops := K.ops
  clear K
  have CN : Hid (Calls Tryz.prog 16 #[.int .i64 4, .int .i64 128] w fun e w' => ∃ v L, e = .returned (.tuple #[.pointer (some ⟨v, 0, none⟩), .int .i64 0]) ∧ Sep w.heap.size w w' (devOb v L (newVD 4 128) :: [])) := sep_vnew (Sep.start w) 4 128 (by omega) (by omega) (by omega) (by omega)
  go_enter Tryz.func15, Tryz.ntmps15
  go_wp2_with fail
  refine CN.out.mono ?_
  rintro e w1 ⟨v, L, rfl, hs⟩
  have H1 := Lib.hid hs
  clear hs CN
  have CR : Hid (Calls Tryz.prog 8 #[.pointer (some ⟨v, 0, none⟩)] w1 fun e w' => e = .returned (.tuple #[.agg #[.int .i64 0, .int .i64 0, .int .i64 0, .int .i64 0, .int .i64 0, .int .i64 0, .int .i64 0, .int .i64 0], .int .i64 0, .int .i64 5]) ∧ Sep w.heap.size w w' (devOb v L (newVD 4 128) :: [])) := wk_read H1.out 5 0 bk0 HK.out.r0
  go_wp2_with fail
  refine CR.out.mono ?_
  rintro e w2 ⟨rfl, hs⟩
  have H2 := Lib.hid hs
  clear hs CR
  go_wp2_with fail
  refine (four_any _).mono ?_
  rintro e w3 ⟨rfl, hb⟩
  have H3 := Lib.hid (H2.out.below hb)
  clear hb
  have CB : Hid (Calls Tryz.prog 18 #[.pointer (some ⟨v, 0, none⟩), .agg #[.int .i64 4, .int .i64 128, .int .i64 2, .int .i64 200, .int .i64 8, .int .i64 16, .int .i64 1]] w3 fun e w' => e = .returned (.int .i64 0) ∧ ∃ L', Sep w.heap.size w w' (devOb v L' X1 :: [])) := wk_begin H3.out AllCells.nil (by show 0 ≤ 1000; omega) (cF 1) (cF_wf 1 (.inl rfl)) 0 HK.out.b0
  go_wp2_with fail
  refine CB.out.mono ?_
  rintro e w4 ⟨rfl, L2, hs⟩
  have H4 := Lib.hid hs
  clear hs CB
  have CR : Hid (Calls Tryz.prog 8 #[.pointer (some ⟨v, 0, none⟩)] w4 fun e w' => e = .returned (.tuple #[.agg #[.int .i64 2, .int .i64 4, .int .i64 128, .int .i64 2, .int .i64 200, .int .i64 8, .int .i64 16, .int .i64 1], .int .i64 0, .int .i64 0]) ∧ Sep w.heap.size w w' (devOb v L2 X1 :: [])) := wk_read H4.out 0 0 ⟨2, cF 1⟩ HK.out.r1
  go_wp2_with fail
  refine CR.out.mono ?_
  rintro e w5 ⟨rfl, hs⟩
  have H5 := Lib.hid hs
  clear hs CR
  obtain ⟨b3, hb3⟩ : ∃ b3, b3 = w5.heap.size := ⟨_, rfl⟩
  obtain ⟨W6, hW6⟩ : ∃ W6 : World, W6 = w5.alloc (.cells #[.int .i64 2, .int .i64 4, .int .i64 128, .int .i64 2, .int .i64 200, .int .i64 8, .int .i64 16, .int .i64 1] 33) := ⟨_, rfl⟩
  have H6 : Hid (Sep w.heap.size w W6 (devOb v L2 X1 :: [blkOb b3 33 #[.int .i64 2, .int .i64 4, .int .i64 128, .int .i64 2, .int .i64 200, .int .i64 8, .int .i64 16, .int .i64 1]])) := by
    show Sep _ _ _ _
    rw [hW6]
    exact (H5.out.newBlk b3 33 #[.int .i64 2, .int .i64 4, .int .i64 128, .int .i64 2, .int .i64 200, .int .i64 8, .int .i64 16, .int .i64 1] hb3).perm (.swap _ _ _)
  go_upto_region 8 with fail
  rw [← hb3, ← hW6]
  clear hb3 hW6
  obtain ⟨STA, hSTA⟩ : ∃ STA : World → Prop, STA = fun W => ∃ L', Sep w.heap.size w W (devOb v L' X1 :: [blkOb b3 33 #[.int .i64 2, .int .i64 4, .int .i64 128, .int .i64 2, .int .i64 200, .int .i64 8, .int .i64 16, .int .i64 1]]) := ⟨_, rfl⟩
  have HST := Lib.hid hSTA
  have sta0 : STA W6.drew := by rw [hSTA]; exact ⟨L2, H6.out.drew⟩
  have HCE : Hid (∀ W, STA W → W.cell? ⟨b3, 0, none⟩ = some (.int .i64 2) ∧ W.cell? ⟨b3, 1, none⟩ = some (.int .i64 4) ∧ W.cell? ⟨b3, 2, none⟩ = some (.int .i64 128) ∧ W.cell? ⟨b3, 3, none⟩ = some (.int .i64 2) ∧ W.cell? ⟨b3, 4, none⟩ = some (.int .i64 200) ∧ W.cell? ⟨b3, 5, none⟩ = some (.int .i64 8) ∧ W.cell? ⟨b3, 6, none⟩ = some (.int .i64 16) ∧ W.cell? ⟨b3, 7, none⟩ = some (.int .i64 1)) := fun W hW => by
    rw [hSTA] at hW
    obtain ⟨L', hW⟩ := hW
    have k3 : Blk W b3 33 #[.int .i64 2, .int .i64 4, .int .i64 128, .int .i64 2, .int .i64 200, .int .i64 8, .int .i64 16, .int .i64 1] := hW.get (.tail _ (.head _))
    exact ⟨k3.cell 0, k3.cell 1, k3.cell 2, k3.cell 3, k3.cell 4, k3.cell 5, k3.cell 6, k3.cell 7⟩
  have CF : Hid (∀ W, STA W → Calls Tryz.prog 50 #[] W fun e w' => e = .returned (.agg #[.int .i64 4, .int .i64 128, .int .i64 2, .int .i64 200, .int .i64 8, .int .i64 16, .int .i64 1]) ∧ STA w') := fun W hW => by
    refine (four_any W).mono ?_
    rintro e w' ⟨h1, h2⟩
    rw [hSTA] at hW ⊢
    obtain ⟨L', hW⟩ := hW
    exact ⟨h1, L', hW.below h2⟩
  have CB : Hid (∀ W, STA W → Calls Tryz.prog 18 #[.pointer (some ⟨v, 0, none⟩), .agg #[.int .i64 4, .int .i64 128, .int .i64 2, .int .i64 200, .int .i64 8, .int .i64 16, .int .i64 1]] W fun e w' => e = .returned (.int .i64 6) ∧ STA w') := fun W hW => by
    rw [hSTA] at hW ⊢
    obtain ⟨L', hW⟩ := hW
    exact wk_begin hW (AllCells.cons (cellOb_blk _ _ _) AllCells.nil) (by omega) (cF 1) (cF_wf 1 (.inl rfl)) 6 HK.out.b1
  obtain ⟨q0, q1, q2, q3, q4, q5, q6, q7⟩ := HCE.out W6 (by rw [hSTA]; exact ⟨L2, H6.out⟩)
  clear hSTA
  go_region_held3 (fun X' => X'.cell? ⟨b3, 0, none⟩ = some (.int .i64 2) ∧ X'.cell? ⟨b3, 1, none⟩ = some (.int .i64 4) ∧ X'.cell? ⟨b3, 2, none⟩ = some (.int .i64 128) ∧ X'.cell? ⟨b3, 3, none⟩ = some (.int .i64 2) ∧ X'.cell? ⟨b3, 4, none⟩ = some (.int .i64 200) ∧ X'.cell? ⟨b3, 5, none⟩ = some (.int .i64 8) ∧ X'.cell? ⟨b3, 6, none⟩ = some (.int .i64 16) ∧ X'.cell? ⟨b3, 7, none⟩ = some (.int .i64 1)) ((repeat' apply And.intro) <;> first | assumption | go_keep)
    (first
      | (go_at_call 50; refine (CF.out _ (by assumption)).mono ?_; rintro e y4 ⟨rfl, hs4⟩; obtain ⟨e0, e1, e2, e3, e4, e5, e6, e7⟩ := HCE.out _ hs4)
      | (go_at_call 18; refine (CB.out _ (by assumption)).mono ?_; rintro e y5 ⟨rfl, hs5⟩; obtain ⟨f0, f1, f2, f3, f4, f5, f6, f7⟩ := HCE.out _ hs5))
  all_goals
    rw [HST.out] at hs5
    obtain ⟨L3, hs5⟩ := hs5
    have H7 : Hid (Sep w.heap.size w y5 (devOb v L3 X1 :: [blkOb b3 33 #[.int .i64 2, .int .i64 4, .int .i64 128, .int .i64 2, .int .i64 200, .int .i64 8, .int .i64 16, .int .i64 1]])) := hs5
    clear hs5 q0 q1 q2 q3 q4 q5 q6 q7 f0 f1 f2 f3 f4 f5 f6 f7 CF CB HCE HST
    have CA : Hid (Calls Tryz.prog 10 #[.pointer (some ⟨v, 0, none⟩), .int .i64 2] y5 fun e w' => e = .returned (.tuple #[.agg #[.int .i64 3, .int .i64 4, .int .i64 128, .int .i64 2, .int .i64 200, .int .i64 8, .int .i64 16, .int .i64 2], .int .i64 0]) ∧ ∃ L', Sep w.heap.size w w' (devOb v L' X2 :: [blkOb b3 33 #[.int .i64 2, .int .i64 4, .int .i64 128, .int .i64 2, .int .i64 200, .int .i64 8, .int .i64 16, .int .i64 1]])) := wk_adv H7.out (AllCells.cons (cellOb_blk _ _ _) AllCells.nil) (by omega) 2 0 ⟨3, cF 2⟩ HK.out.a1
    go_wp2_with fail
    refine CA.out.mono ?_
    rintro e w8 ⟨rfl, L4, hs⟩
    have H8 := Lib.hid hs
    clear hs CA
    obtain ⟨b5, hb5⟩ : ∃ b5, b5 = w8.heap.size := ⟨_, rfl⟩
    obtain ⟨W9, hW9⟩ : ∃ W9 : World, W9 = w8.alloc (.cells #[.int .i64 3, .int .i64 4, .int .i64 128, .int .i64 2, .int .i64 200, .int .i64 8, .int .i64 16, .int .i64 2] 33) := ⟨_, rfl⟩
    have H9 : Hid (Sep w.heap.size w W9 (devOb v L4 X2 :: [blkOb b5 33 #[.int .i64 3, .int .i64 4, .int .i64 128, .int .i64 2, .int .i64 200, .int .i64 8, .int .i64 16, .int .i64 2], blkOb b3 33 #[.int .i64 2, .int .i64 4, .int .i64 128, .int .i64 2, .int .i64 200, .int .i64 8, .int .i64 16, .int .i64 1]])) := by
      show Sep _ _ _ _
      rw [hW9]
      exact (H8.out.newBlk b5 33 #[.int .i64 3, .int .i64 4, .int .i64 128, .int .i64 2, .int .i64 200, .int .i64 8, .int .i64 16, .int .i64 2] hb5).perm (.swap _ _ _)
    go_upto_region 11 with fail
    rw [← hb5, ← hW9]
    clear hb5 hW9
    have CR : Hid (Calls Tryz.prog 8 #[.pointer (some ⟨v, 0, none⟩)] W9 fun e w' => e = .returned (.tuple #[.agg #[.int .i64 3, .int .i64 4, .int .i64 128, .int .i64 2, .int .i64 200, .int .i64 8, .int .i64 16, .int .i64 2], .int .i64 1, .int .i64 0]) ∧ Sep w.heap.size w w' (devOb v L4 X2 :: [blkOb b5 33 #[.int .i64 3, .int .i64 4, .int .i64 128, .int .i64 2, .int .i64 200, .int .i64 8, .int .i64 16, .int .i64 2], blkOb b3 33 #[.int .i64 2, .int .i64 4, .int .i64 128, .int .i64 2, .int .i64 200, .int .i64 8, .int .i64 16, .int .i64 1]])) := wk_read H9.out 0 1 ⟨3, cF 2⟩ HK.out.r2
    go_wp2_with fail
    refine CR.out.mono ?_
    rintro e w10 ⟨rfl, hs⟩
    have H10 : Hid (Sep w.heap.size w w10 (blkOb b3 33 #[.int .i64 2, .int .i64 4, .int .i64 128, .int .i64 2, .int .i64 200, .int .i64 8, .int .i64 16, .int .i64 1] :: [devOb v L4 X2, blkOb b5 33 #[.int .i64 3, .int .i64 4, .int .i64 128, .int .i64 2, .int .i64 200, .int .i64 8, .int .i64 16, .int .i64 2]])) := hs.perm (List.perm_middle (l₁ := [_, _]))
    clear hs CR
    go_upto_region 12 with (refine wpList_store_row rfl 33 _ _ rfl b3 (bkv ⟨3, cF 2⟩) rfl rfl 33 #[.int .i64 2, .int .i64 4, .int .i64 128, .int .i64 2, .int .i64 200, .int .i64 8, .int .i64 16, .int .i64 1] (show Blk _ b3 33 #[.int .i64 2, .int .i64 4, .int .i64 128, .int .i64 2, .int .i64 200, .int .i64 8, .int .i64 16, .int .i64 1] from H10.out.get (.head _)) bk_size rfl (bkv_one _) ?_)
    obtain ⟨W11, hW11⟩ : ∃ W11 : World, W11 = w10.setRow b3 (bkv ⟨3, cF 2⟩) := ⟨_, rfl⟩
    have H11 : Hid (Sep w.heap.size w W11 (devOb v L4 X2 :: [blkOb b3 33 #[.int .i64 3, .int .i64 4, .int .i64 128, .int .i64 2, .int .i64 200, .int .i64 8, .int .i64 16, .int .i64 2], blkOb b5 33 #[.int .i64 3, .int .i64 4, .int .i64 128, .int .i64 2, .int .i64 200, .int .i64 8, .int .i64 16, .int .i64 2]])) := by
      show Sep _ _ _ _
      rw [hW11]
      exact (H10.out.setRowBlk (bkv ⟨3, cF 2⟩)).perm (.swap _ _ _)
    rw [← hW11]
    clear hW11
    have kb3 : Blk W11 b3 33 #[.int .i64 3, .int .i64 4, .int .i64 128, .int .i64 2, .int .i64 200, .int .i64 8, .int .i64 16, .int .i64 2] := H11.out.get (.tail _ (.head _))
    have q0 : W11.cell? ⟨b3, 0, none⟩ = some (.int .i64 3) := kb3.cell 0
    have q1 : W11.cell? ⟨b3, 1, none⟩ = some (.int .i64 4) := kb3.cell 1
    have q2 : W11.cell? ⟨b3, 2, none⟩ = some (.int .i64 128) := kb3.cell 2
    have q3 : W11.cell? ⟨b3, 3, none⟩ = some (.int .i64 2) := kb3.cell 3
    have q4 : W11.cell? ⟨b3, 4, none⟩ = some (.int .i64 200) := kb3.cell 4
    have q5 : W11.cell? ⟨b3, 5, none⟩ = some (.int .i64 8) := kb3.cell 5
    have q6 : W11.cell? ⟨b3, 6, none⟩ = some (.int .i64 16) := kb3.cell 6
    have q7 : W11.cell? ⟨b3, 7, none⟩ = some (.int .i64 2) := kb3.cell 7
    clear kb3
    have kb5 : Blk W11 b5 33 #[.int .i64 3, .int .i64 4, .int .i64 128, .int .i64 2, .int .i64 200, .int .i64 8, .int .i64 16, .int .i64 2] := H11.out.get (.tail _ (.tail _ (.head _)))
    have r0 : W11.cell? ⟨b5, 0, none⟩ = some (.int .i64 3) := kb5.cell 0
    have r1 : W11.cell? ⟨b5, 1, none⟩ = some (.int .i64 4) := kb5.cell 1
    have r2 : W11.cell? ⟨b5, 2, none⟩ = some (.int .i64 128) := kb5.cell 2
    have r3 : W11.cell? ⟨b5, 3, none⟩ = some (.int .i64 2) := kb5.cell 3
    have r4 : W11.cell? ⟨b5, 4, none⟩ = some (.int .i64 200) := kb5.cell 4
    have r5 : W11.cell? ⟨b5, 5, none⟩ = some (.int .i64 8) := kb5.cell 5
    have r6 : W11.cell? ⟨b5, 6, none⟩ = some (.int .i64 16) := kb5.cell 6
    have r7 : W11.cell? ⟨b5, 7, none⟩ = some (.int .i64 2) := kb5.cell 7
    clear kb5
    obtain ⟨bg, hbg⟩ : ∃ bg, bg = W11.heap.size := ⟨_, rfl⟩
    obtain ⟨W12, hW12⟩ : ∃ W12 : World, W12 = W11.alloc (.cells #[.int .i64 10] 3) := ⟨_, rfl⟩
    have H12 : Hid (Sep w.heap.size w W12 (blkOb bg 3 #[.int .i64 10] :: devOb v L4 X2 :: [blkOb b3 33 #[.int .i64 3, .int .i64 4, .int .i64 128, .int .i64 2, .int .i64 200, .int .i64 8, .int .i64 16, .int .i64 2], blkOb b5 33 #[.int .i64 3, .int .i64 4, .int .i64 128, .int .i64 2, .int .i64 200, .int .i64 8, .int .i64 16, .int .i64 2]])) := by
      show Sep _ _ _ _
      rw [hW12]
      exact H11.out.newBlk bg _ _ hbg
    have harm : armE 2 [10] = 0 := if_pos (by unfold okPlan; decide)
    have CM : Hid (Calls Tryz.prog 24 #[.pointer (some ⟨v, 0, none⟩), .agg #[.int .i64 2, .bool false, .slice (some ⟨bg, 0, none⟩) 1 1]] W12 fun e w' => e = .returned (.int .i64 0) ∧ ∃ L', Sep w.heap.size w w' (devOb v L' (armX X2 2 false [10]) :: [blkOb b3 33 #[.int .i64 3, .int .i64 4, .int .i64 128, .int .i64 2, .int .i64 200, .int .i64 8, .int .i64 16, .int .i64 2], blkOb b5 33 #[.int .i64 3, .int .i64 4, .int .i64 128, .int .i64 2, .int .i64 200, .int .i64 8, .int .i64 16, .int .i64 2]])) := by
      have := sep_varm_blk H12.out (AllCells.cons (cellOb_blk _ _ _) (AllCells.cons (cellOb_blk _ _ _) AllCells.nil)) 2 false [10] 1 rfl rfl (by unfold maxLen; omega) (by omega)
      rw [harm] at this
      exact this
    clear harm
    go_wp2_with fail
    rw [← hbg, ← hW12]
    clear hbg hW12 q0 r0 q1 r1 q2 r2 q3 r3 q4 r4 q5 r5 q6 r6 q7 r7
    refine CM.out.mono ?_
    rintro e w13 ⟨rfl, L5, hs⟩
    have H13 := Lib.hid hs
    clear hs CM
    have CA : Hid (Calls Tryz.prog 10 #[.pointer (some ⟨v, 0, none⟩), .int .i64 1] w13 fun e w' => e = .returned (.tuple #[.agg #[.int .i64 0, .int .i64 0, .int .i64 0, .int .i64 0, .int .i64 0, .int .i64 0, .int .i64 0, .int .i64 0], .int .i64 13]) ∧ ∃ L', Sep w.heap.size w w' (devOb v L' X4 :: [blkOb b3 33 #[.int .i64 3, .int .i64 4, .int .i64 128, .int .i64 2, .int .i64 200, .int .i64 8, .int .i64 16, .int .i64 2], blkOb b5 33 #[.int .i64 3, .int .i64 4, .int .i64 128, .int .i64 2, .int .i64 200, .int .i64 8, .int .i64 16, .int .i64 2]])) := wk_adv H13.out (AllCells.cons (cellOb_blk _ _ _) (AllCells.cons (cellOb_blk _ _ _) AllCells.nil)) (by rw [armX_ops0]; omega) 1 13 bk0 HK.out.a3
    go_wp2_with fail
    refine CA.out.mono ?_
    rintro e w14 ⟨rfl, L6, hs⟩
    have H14 := Lib.hid hs
    clear hs CA
    have CR : Hid (Calls Tryz.prog 8 #[.pointer (some ⟨v, 0, none⟩)] w14 fun e w' => e = .returned (.tuple #[.agg #[.int .i64 0, .int .i64 0, .int .i64 0, .int .i64 0, .int .i64 0, .int .i64 0, .int .i64 0, .int .i64 0], .int .i64 0, .int .i64 13]) ∧ Sep w.heap.size w w' (devOb v L6 X4 :: [blkOb b3 33 #[.int .i64 3, .int .i64 4, .int .i64 128, .int .i64 2, .int .i64 200, .int .i64 8, .int .i64 16, .int .i64 2], blkOb b5 33 #[.int .i64 3, .int .i64 4, .int .i64 128, .int .i64 2, .int .i64 200, .int .i64 8, .int .i64 16, .int .i64 2]])) := wk_read H14.out 13 0 bk0 HK.out.r4
    go_wp2_with fail
    refine CR.out.mono ?_
    rintro e w15 ⟨rfl, hs⟩
    have H15 := Lib.hid hs
    clear hs CR
    have CS : Hid (Calls Tryz.prog 26 #[.pointer (some ⟨v, 0, none⟩)] w15 fun e w' => e = .returned (.int .i64 0) ∧ Sep w.heap.size w w' (devOb v L6 (restartX X4) :: [blkOb b3 33 #[.int .i64 3, .int .i64 4, .int .i64 128, .int .i64 2, .int .i64 200, .int .i64 8, .int .i64 16, .int .i64 2], blkOb b5 33 #[.int .i64 3, .int .i64 4, .int .i64 128, .int .i64 2, .int .i64 200, .int .i64 8, .int .i64 16, .int .i64 2]])) := sep_vrestart H15.out
    go_wp2_with fail
    refine CS.out.mono ?_
    rintro e w16 ⟨rfl, hs⟩
    have H16 := Lib.hid hs
    clear hs CS
    have CR : Hid (Calls Tryz.prog 8 #[.pointer (some ⟨v, 0, none⟩)] w16 fun e w' => e = .returned (.tuple #[.agg #[.int .i64 3, .int .i64 4, .int .i64 128, .int .i64 2, .int .i64 200, .int .i64 8, .int .i64 16, .int .i64 2], .int .i64 1, .int .i64 0]) ∧ Sep w.heap.size w w' (devOb v L6 (restartX X4) :: [blkOb b3 33 #[.int .i64 3, .int .i64 4, .int .i64 128, .int .i64 2, .int .i64 200, .int .i64 8, .int .i64 16, .int .i64 2], blkOb b5 33 #[.int .i64 3, .int .i64 4, .int .i64 128, .int .i64 2, .int .i64 200, .int .i64 8, .int .i64 16, .int .i64 2]])) := wk_read H16.out 0 1 ⟨3, cF 2⟩ HK.out.r5
    go_wp2_with fail
    refine CR.out.mono ?_
    rintro e w17 ⟨rfl, hs⟩
    have H17 := Lib.hid hs
    clear hs CR
    obtain ⟨b7, hb7⟩ : ∃ b7, b7 = w17.heap.size := ⟨_, rfl⟩
    obtain ⟨W18, hW18⟩ : ∃ W18 : World, W18 = w17.alloc (.cells #[.int .i64 3, .int .i64 4, .int .i64 128, .int .i64 2, .int .i64 200, .int .i64 8, .int .i64 16, .int .i64 2] 33) := ⟨_, rfl⟩
    have H18 : Hid (Sep w.heap.size w W18 (devOb v L6 (restartX X4) :: [blkOb b7 33 #[.int .i64 3, .int .i64 4, .int .i64 128, .int .i64 2, .int .i64 200, .int .i64 8, .int .i64 16, .int .i64 2], blkOb b3 33 #[.int .i64 3, .int .i64 4, .int .i64 128, .int .i64 2, .int .i64 200, .int .i64 8, .int .i64 16, .int .i64 2], blkOb b5 33 #[.int .i64 3, .int .i64 4, .int .i64 128, .int .i64 2, .int .i64 200, .int .i64 8, .int .i64 16, .int .i64 2]])) := by
      show Sep _ _ _ _
      rw [hW18]
      exact (H17.out.newBlk b7 33 #[.int .i64 3, .int .i64 4, .int .i64 128, .int .i64 2, .int .i64 200, .int .i64 8, .int .i64 16, .int .i64 2] hb7).perm (.swap _ _ _)
    go_upto_region 19 with fail
    rw [← hb7, ← hW18]
    clear hb7 hW18
    have CA : Hid (Calls Tryz.prog 10 #[.pointer (some ⟨v, 0, none⟩), .int .i64 1] W18 fun e w' => e = .returned (.tuple #[.agg #[.int .i64 4, .int .i64 4, .int .i64 128, .int .i64 2, .int .i64 200, .int .i64 8, .int .i64 16, .int .i64 1], .int .i64 0]) ∧ ∃ L', Sep w.heap.size w w' (devOb v L' X6 :: [blkOb b7 33 #[.int .i64 3, .int .i64 4, .int .i64 128, .int .i64 2, .int .i64 200, .int .i64 8, .int .i64 16, .int .i64 2], blkOb b3 33 #[.int .i64 3, .int .i64 4, .int .i64 128, .int .i64 2, .int .i64 200, .int .i64 8, .int .i64 16, .int .i64 2], blkOb b5 33 #[.int .i64 3, .int .i64 4, .int .i64 128, .int .i64 2, .int .i64 200, .int .i64 8, .int .i64 16, .int .i64 2]])) := wk_adv H18.out (AllCells.cons (cellOb_blk _ _ _) (AllCells.cons (cellOb_blk _ _ _) (AllCells.cons (cellOb_blk _ _ _) AllCells.nil))) (by show X4.ops ≤ 1000; omega) 1 0 ⟨4, cF 1⟩ HK.out.a5
    go_wp2_with fail
    refine CA.out.mono ?_
    rintro e w19 ⟨rfl, L7, hs⟩
    have H19 := Lib.hid hs
    clear hs CA
    obtain ⟨b10, hb10⟩ : ∃ b10, b10 = w19.heap.size := ⟨_, rfl⟩
    obtain ⟨W20, hW20⟩ : ∃ W20 : World, W20 = w19.alloc (.cells #[.int .i64 4, .int .i64 4, .int .i64 128, .int .i64 2, .int .i64 200, .int .i64 8, .int .i64 16, .int .i64 1] 33) := ⟨_, rfl⟩
    have H20 : Hid (Sep w.heap.size w W20 (devOb v L7 X6 :: [blkOb b10 33 #[.int .i64 4, .int .i64 4, .int .i64 128, .int .i64 2, .int .i64 200, .int .i64 8, .int .i64 16, .int .i64 1], blkOb b7 33 #[.int .i64 3, .int .i64 4, .int .i64 128, .int .i64 2, .int .i64 200, .int .i64 8, .int .i64 16, .int .i64 2], blkOb b3 33 #[.int .i64 3, .int .i64 4, .int .i64 128, .int .i64 2, .int .i64 200, .int .i64 8, .int .i64 16, .int .i64 2], blkOb b5 33 #[.int .i64 3, .int .i64 4, .int .i64 128, .int .i64 2, .int .i64 200, .int .i64 8, .int .i64 16, .int .i64 2]])) := by
      show Sep _ _ _ _
      rw [hW20]
      exact (H19.out.newBlk b10 33 #[.int .i64 4, .int .i64 4, .int .i64 128, .int .i64 2, .int .i64 200, .int .i64 8, .int .i64 16, .int .i64 1] hb10).perm (.swap _ _ _)
    go_upto_region 20 with fail
    rw [← hb10, ← hW20]
    clear hb10 hW20
    have CR : Hid (Calls Tryz.prog 8 #[.pointer (some ⟨v, 0, none⟩)] W20 fun e w' => e = .returned (.tuple #[.agg #[.int .i64 4, .int .i64 4, .int .i64 128, .int .i64 2, .int .i64 200, .int .i64 8, .int .i64 16, .int .i64 1], .int .i64 0, .int .i64 0]) ∧ Sep w.heap.size w w' (devOb v L7 X6 :: [blkOb b10 33 #[.int .i64 4, .int .i64 4, .int .i64 128, .int .i64 2, .int .i64 200, .int .i64 8, .int .i64 16, .int .i64 1], blkOb b7 33 #[.int .i64 3, .int .i64 4, .int .i64 128, .int .i64 2, .int .i64 200, .int .i64 8, .int .i64 16, .int .i64 2], blkOb b3 33 #[.int .i64 3, .int .i64 4, .int .i64 128, .int .i64 2, .int .i64 200, .int .i64 8, .int .i64 16, .int .i64 2], blkOb b5 33 #[.int .i64 3, .int .i64 4, .int .i64 128, .int .i64 2, .int .i64 200, .int .i64 8, .int .i64 16, .int .i64 2]])) := wk_read H20.out 0 0 ⟨4, cF 1⟩ HK.out.r6
    go_wp2_with fail
    refine CR.out.mono ?_
    rintro e w21 ⟨rfl, hs⟩
    have H21 := Lib.hid hs
    clear hs CR
    have H22 : Hid (Sep w.heap.size w w21 (blkOb b3 33 #[.int .i64 3, .int .i64 4, .int .i64 128, .int .i64 2, .int .i64 200, .int .i64 8, .int .i64 16, .int .i64 2] :: [devOb v L7 X6, blkOb b10 33 #[.int .i64 4, .int .i64 4, .int .i64 128, .int .i64 2, .int .i64 200, .int .i64 8, .int .i64 16, .int .i64 1], blkOb b7 33 #[.int .i64 3, .int .i64 4, .int .i64 128, .int .i64 2, .int .i64 200, .int .i64 8, .int .i64 16, .int .i64 2], blkOb b5 33 #[.int .i64 3, .int .i64 4, .int .i64 128, .int .i64 2, .int .i64 200, .int .i64 8, .int .i64 16, .int .i64 2]])) := H21.out.perm (List.perm_middle (l₁ := [_, _, _]))
    go_upto_region 21 with (refine wpList_store_row rfl 33 _ _ rfl b3 (bkv ⟨4, cF 1⟩) rfl rfl 33 #[.int .i64 3, .int .i64 4, .int .i64 128, .int .i64 2, .int .i64 200, .int .i64 8, .int .i64 16, .int .i64 2] (show Blk _ b3 33 #[.int .i64 3, .int .i64 4, .int .i64 128, .int .i64 2, .int .i64 200, .int .i64 8, .int .i64 16, .int .i64 2] from H22.out.get (.head _)) bk_size rfl (bkv_one _) ?_)
    obtain ⟨W23, hW23⟩ : ∃ W23 : World, W23 = w21.setRow b3 (bkv ⟨4, cF 1⟩) := ⟨_, rfl⟩
    have H23 : Hid (Sep w.heap.size w W23 (blkOb b3 33 #[.int .i64 4, .int .i64 4, .int .i64 128, .int .i64 2, .int .i64 200, .int .i64 8, .int .i64 16, .int .i64 1] :: [devOb v L7 X6, blkOb b10 33 #[.int .i64 4, .int .i64 4, .int .i64 128, .int .i64 2, .int .i64 200, .int .i64 8, .int .i64 16, .int .i64 1], blkOb b7 33 #[.int .i64 3, .int .i64 4, .int .i64 128, .int .i64 2, .int .i64 200, .int .i64 8, .int .i64 16, .int .i64 2], blkOb b5 33 #[.int .i64 3, .int .i64 4, .int .i64 128, .int .i64 2, .int .i64 200, .int .i64 8, .int .i64 16, .int .i64 2]])) := by
      show Sep _ _ _ _
      rw [hW23]
      exact H22.out.setRowBlk (bkv ⟨4, cF 1⟩)
    rw [← hW23]
    clear hW23
    have kb3 : Blk W23 b3 33 #[.int .i64 4, .int .i64 4, .int .i64 128, .int .i64 2, .int .i64 200, .int .i64 8, .int .i64 16, .int .i64 1] := H23.out.get (.head _)
    have q0 : W23.cell? ⟨b3, 0, none⟩ = some (.int .i64 4) := kb3.cell 0
    have q1 : W23.cell? ⟨b3, 1, none⟩ = some (.int .i64 4) := kb3.cell 1
    have q2 : W23.cell? ⟨b3, 2, none⟩ = some (.int .i64 128) := kb3.cell 2
    have q3 : W23.cell? ⟨b3, 3, none⟩ = some (.int .i64 2) := kb3.cell 3
    have q4 : W23.cell? ⟨b3, 4, none⟩ = some (.int .i64 200) := kb3.cell 4
    have q5 : W23.cell? ⟨b3, 5, none⟩ = some (.int .i64 8) := kb3.cell 5
    have q6 : W23.cell? ⟨b3, 6, none⟩ = some (.int .i64 16) := kb3.cell 6
    have q7 : W23.cell? ⟨b3, 7, none⟩ = some (.int .i64 1) := kb3.cell 7
    clear kb3
    have kb10 : Blk W23 b10 33 #[.int .i64 4, .int .i64 4, .int .i64 128, .int .i64 2, .int .i64 200, .int .i64 8, .int .i64 16, .int .i64 1] := H23.out.get (.tail _ (.tail _ (.head _)))
    have r0 : W23.cell? ⟨b10, 0, none⟩ = some (.int .i64 4) := kb10.cell 0
    have r1 : W23.cell? ⟨b10, 1, none⟩ = some (.int .i64 4) := kb10.cell 1
    have r2 : W23.cell? ⟨b10, 2, none⟩ = some (.int .i64 128) := kb10.cell 2
    have r3 : W23.cell? ⟨b10, 3, none⟩ = some (.int .i64 2) := kb10.cell 3
    have r4 : W23.cell? ⟨b10, 4, none⟩ = some (.int .i64 200) := kb10.cell 4
    have r5 : W23.cell? ⟨b10, 5, none⟩ = some (.int .i64 8) := kb10.cell 5
    have r6 : W23.cell? ⟨b10, 6, none⟩ = some (.int .i64 16) := kb10.cell 6
    have r7 : W23.cell? ⟨b10, 7, none⟩ = some (.int .i64 1) := kb10.cell 7
    clear kb10
    have kb7 : Blk W23 b7 33 #[.int .i64 3, .int .i64 4, .int .i64 128, .int .i64 2, .int .i64 200, .int .i64 8, .int .i64 16, .int .i64 2] := H23.out.get (.tail _ (.tail _ (.tail _ (.head _))))
    have s0 : W23.cell? ⟨b7, 0, none⟩ = some (.int .i64 3) := kb7.cell 0
    have s1 : W23.cell? ⟨b7, 1, none⟩ = some (.int .i64 4) := kb7.cell 1
    have s2 : W23.cell? ⟨b7, 2, none⟩ = some (.int .i64 128) := kb7.cell 2
    have s3 : W23.cell? ⟨b7, 3, none⟩ = some (.int .i64 2) := kb7.cell 3
    have s4 : W23.cell? ⟨b7, 4, none⟩ = some (.int .i64 200) := kb7.cell 4
    have s5 : W23.cell? ⟨b7, 5, none⟩ = some (.int .i64 8) := kb7.cell 5
    have s6 : W23.cell? ⟨b7, 6, none⟩ = some (.int .i64 16) := kb7.cell 6
    have s7 : W23.cell? ⟨b7, 7, none⟩ = some (.int .i64 2) := kb7.cell 7
    clear kb7
    have kb5 : Blk W23 b5 33 #[.int .i64 3, .int .i64 4, .int .i64 128, .int .i64 2, .int .i64 200, .int .i64 8, .int .i64 16, .int .i64 2] := H23.out.get (.tail _ (.tail _ (.tail _ (.tail _ (.head _)))))
    have t0 : W23.cell? ⟨b5, 0, none⟩ = some (.int .i64 3) := kb5.cell 0
    have t1 : W23.cell? ⟨b5, 1, none⟩ = some (.int .i64 4) := kb5.cell 1
    have t2 : W23.cell? ⟨b5, 2, none⟩ = some (.int .i64 128) := kb5.cell 2
    have t3 : W23.cell? ⟨b5, 3, none⟩ = some (.int .i64 2) := kb5.cell 3
    have t4 : W23.cell? ⟨b5, 4, none⟩ = some (.int .i64 200) := kb5.cell 4
    have t5 : W23.cell? ⟨b5, 5, none⟩ = some (.int .i64 8) := kb5.cell 5
    have t6 : W23.cell? ⟨b5, 6, none⟩ = some (.int .i64 16) := kb5.cell 6
    have t7 : W23.cell? ⟨b5, 7, none⟩ = some (.int .i64 2) := kb5.cell 7
    clear kb5
    have CF : Hid (∀ W, Below w.heap.size w W → Below W23.heap.size W23 W → Calls Tryz.prog 50 #[] W fun e w' => e = .returned (.agg #[.int .i64 4, .int .i64 128, .int .i64 2, .int .i64 200, .int .i64 8, .int .i64 16, .int .i64 1]) ∧ (w'.cell? ⟨b3, 0, none⟩ = some (.int .i64 4) ∧ w'.cell? ⟨b3, 1, none⟩ = some (.int .i64 4) ∧ w'.cell? ⟨b3, 2, none⟩ = some (.int .i64 128) ∧ w'.cell? ⟨b3, 3, none⟩ = some (.int .i64 2) ∧ w'.cell? ⟨b3, 4, none⟩ = some (.int .i64 200) ∧ w'.cell? ⟨b3, 5, none⟩ = some (.int .i64 8) ∧ w'.cell? ⟨b3, 6, none⟩ = some (.int .i64 16) ∧ w'.cell? ⟨b3, 7, none⟩ = some (.int .i64 1) ∧ w'.cell? ⟨b10, 0, none⟩ = some (.int .i64 4) ∧ w'.cell? ⟨b10, 1, none⟩ = some (.int .i64 4) ∧ w'.cell? ⟨b10, 2, none⟩ = some (.int .i64 128) ∧ w'.cell? ⟨b10, 3, none⟩ = some (.int .i64 2) ∧ w'.cell? ⟨b10, 4, none⟩ = some (.int .i64 200) ∧ w'.cell? ⟨b10, 5, none⟩ = some (.int .i64 8) ∧ w'.cell? ⟨b10, 6, none⟩ = some (.int .i64 16) ∧ w'.cell? ⟨b10, 7, none⟩ = some (.int .i64 1) ∧ w'.cell? ⟨b7, 0, none⟩ = some (.int .i64 3) ∧ w'.cell? ⟨b7, 1, none⟩ = some (.int .i64 4) ∧ w'.cell? ⟨b7, 2, none⟩ = some (.int .i64 128) ∧ w'.cell? ⟨b7, 3, none⟩ = some (.int .i64 2) ∧ w'.cell? ⟨b7, 4, none⟩ = some (.int .i64 200) ∧ w'.cell? ⟨b7, 5, none⟩ = some (.int .i64 8) ∧ w'.cell? ⟨b7, 6, none⟩ = some (.int .i64 16) ∧ w'.cell? ⟨b7, 7, none⟩ = some (.int .i64 2) ∧ w'.cell? ⟨b5, 0, none⟩ = some (.int .i64 3) ∧ w'.cell? ⟨b5, 1, none⟩ = some (.int .i64 4) ∧ w'.cell? ⟨b5, 2, none⟩ = some (.int .i64 128) ∧ w'.cell? ⟨b5, 3, none⟩ = some (.int .i64 2) ∧ w'.cell? ⟨b5, 4, none⟩ = some (.int .i64 200) ∧ w'.cell? ⟨b5, 5, none⟩ = some (.int .i64 8) ∧ w'.cell? ⟨b5, 6, none⟩ = some (.int .i64 16) ∧ w'.cell? ⟨b5, 7, none⟩ = some (.int .i64 2)) ∧ Below w.heap.size w w') := fun W h1 h2 => by
      refine (four_any W).mono ?_
      rintro e w' ⟨h3, h4⟩
      have h5 := H23.out.below (h2.trans (h4.mono h2.size))
      have y3 : Blk w' b3 33 #[.int .i64 4, .int .i64 4, .int .i64 128, .int .i64 2, .int .i64 200, .int .i64 8, .int .i64 16, .int .i64 1] := h5.get (.head _)
      have y10 : Blk w' b10 33 #[.int .i64 4, .int .i64 4, .int .i64 128, .int .i64 2, .int .i64 200, .int .i64 8, .int .i64 16, .int .i64 1] := h5.get (.tail _ (.tail _ (.head _)))
      have y7 : Blk w' b7 33 #[.int .i64 3, .int .i64 4, .int .i64 128, .int .i64 2, .int .i64 200, .int .i64 8, .int .i64 16, .int .i64 2] := h5.get (.tail _ (.tail _ (.tail _ (.head _))))
      have y5 : Blk w' b5 33 #[.int .i64 3, .int .i64 4, .int .i64 128, .int .i64 2, .int .i64 200, .int .i64 8, .int .i64 16, .int .i64 2] := h5.get (.tail _ (.tail _ (.tail _ (.tail _ (.head _)))))
      exact ⟨h3, ⟨y3.cell 0, y3.cell 1, y3.cell 2, y3.cell 3, y3.cell 4, y3.cell 5, y3.cell 6, y3.cell 7, y10.cell 0, y10.cell 1, y10.cell 2, y10.cell 3, y10.cell 4, y10.cell 5, y10.cell 6, y10.cell 7, y7.cell 0, y7.cell 1, y7.cell 2, y7.cell 3, y7.cell 4, y7.cell 5, y7.cell 6, y7.cell 7, y5.cell 0, y5.cell 1, y5.cell 2, y5.cell 3, y5.cell 4, y5.cell 5, y5.cell 6, y5.cell 7⟩, h5.bel⟩
    have hb1 : Below w.heap.size w W23.drew := H23.out.bel.drew
    have hb2 : Below W23.heap.size W23 W23.drew := (Below.refl _ W23).drew
    go_region_held3 (fun X' => X'.cell? ⟨b3, 0, none⟩ = some (.int .i64 4) ∧ X'.cell? ⟨b3, 1, none⟩ = some (.int .i64 4) ∧ X'.cell? ⟨b3, 2, none⟩ = some (.int .i64 128) ∧ X'.cell? ⟨b3, 3, none⟩ = some (.int .i64 2) ∧ X'.cell? ⟨b3, 4, none⟩ = some (.int .i64 200) ∧ X'.cell? ⟨b3, 5, none⟩ = some (.int .i64 8) ∧ X'.cell? ⟨b3, 6, none⟩ = some (.int .i64 16) ∧ X'.cell? ⟨b3, 7, none⟩ = some (.int .i64 1) ∧ X'.cell? ⟨b10, 0, none⟩ = some (.int .i64 4) ∧ X'.cell? ⟨b10, 1, none⟩ = some (.int .i64 4) ∧ X'.cell? ⟨b10, 2, none⟩ = some (.int .i64 128) ∧ X'.cell? ⟨b10, 3, none⟩ = some (.int .i64 2) ∧ X'.cell? ⟨b10, 4, none⟩ = some (.int .i64 200) ∧ X'.cell? ⟨b10, 5, none⟩ = some (.int .i64 8) ∧ X'.cell? ⟨b10, 6, none⟩ = some (.int .i64 16) ∧ X'.cell? ⟨b10, 7, none⟩ = some (.int .i64 1) ∧ X'.cell? ⟨b7, 0, none⟩ = some (.int .i64 3) ∧ X'.cell? ⟨b7, 1, none⟩ = some (.int .i64 4) ∧ X'.cell? ⟨b7, 2, none⟩ = some (.int .i64 128) ∧ X'.cell? ⟨b7, 3, none⟩ = some (.int .i64 2) ∧ X'.cell? ⟨b7, 4, none⟩ = some (.int .i64 200) ∧ X'.cell? ⟨b7, 5, none⟩ = some (.int .i64 8) ∧ X'.cell? ⟨b7, 6, none⟩ = some (.int .i64 16) ∧ X'.cell? ⟨b7, 7, none⟩ = some (.int .i64 2) ∧ X'.cell? ⟨b5, 0, none⟩ = some (.int .i64 3) ∧ X'.cell? ⟨b5, 1, none⟩ = some (.int .i64 4) ∧ X'.cell? ⟨b5, 2, none⟩ = some (.int .i64 128) ∧ X'.cell? ⟨b5, 3, none⟩ = some (.int .i64 2) ∧ X'.cell? ⟨b5, 4, none⟩ = some (.int .i64 200) ∧ X'.cell? ⟨b5, 5, none⟩ = some (.int .i64 8) ∧ X'.cell? ⟨b5, 6, none⟩ = some (.int .i64 16) ∧ X'.cell? ⟨b5, 7, none⟩ = some (.int .i64 2)) ((repeat' apply And.intro) <;> first | assumption | go_keep)
      (first
        | (go_at_call 50; refine (CF.out _ (by assumption) (by assumption)).mono ?_; rintro e y9 ⟨rfl, ⟨a0, a1, a2, a3, a4, a5, a6, a7, c0, c1, c2, c3, c4, c5, c6, c7, d0, d1, d2, d3, d4, d5, d6, d7, f0, f1, f2, f3, f4, f5, f6, f7⟩, hb9⟩))
    all_goals
      have HB9 := Lib.hid hb9
      clear hb9
      go_wp2_with fail
      go_ret
      exact ⟨rfl, HB9.out⟩
end Go.Proofs.YtnopljanpjmbgaaGreat

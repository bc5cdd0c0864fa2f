/-
  The walk of the law DiskPlays: it returns true and writes nothing that was there. No condition.
-/
import Derived.Test.YtelobbigpgfobaaDstep
import Derived.Test.YtelobbigpgfobaaDworks
import Derived.Test.YtelobbigpgfobaaDwhole
import Derived.Deep.CutBlock
import Derived.Deep.DeepCutAuto
import Derived.Deep.RegionHeld3
namespace Go.Proofs.Ytelobbigpgfobaa
open Go.RowKit
set_option linter.unusedVariables false
theorem dnew_err (A : Option Addr) (n c : Nat) (zs : List Int) (w : World) (hr : Reads w w.heap.size 1 A n (ints zs)) (hm : n ≤ maxLen) (h : n < 1 ∨ 34 < n ∨ ∃ z ∈ zs, ¬ okSize z) :
    Calls Try.prog 21 #[.slice A n c] w fun e w' => e = .returned (.tuple #[.pointer none, .int .i64 2]) ∧ Below w.heap.size w w' := by
  by_cases h0 : n < 1 ∨ 34 < n
  · exact (newdisk_len A n c w h0 hm).mono fun e w' ⟨h1, h2⟩ => ⟨h1, by rw [← h2]; exact Below.refl _ _⟩
  · refine (newdisk_any A n c zs w hr (by omega) (by omega)).mono ?_
    rintro e w' (⟨hok, _⟩ | ⟨_, h1, h2⟩)
    · obtain ⟨z, hz, hz2⟩ : ∃ z ∈ zs, ¬ okSize z := by
        rcases h with e | e | e
        · omega
        · omega
        · exact e
      exact absurd (hok z hz) hz2
    · exact ⟨h1, h2⟩
theorem rnew_err (A : Option Addr) (n c : Nat) (zs : List Int) (w : World) (hr : Reads w w.heap.size 1 A n (ints zs)) (hm : n ≤ maxLen) (h : n < 1 ∨ 34 < n ∨ ∃ z ∈ zs, ¬ okSize z) :
    Calls Try.prog 24 #[.slice A n c] w fun e w' => e = .returned (.tuple #[.pointer none, .int .i64 2]) ∧ Below w.heap.size w w' := by
  by_cases h0 : n < 1 ∨ 34 < n
  · exact (rnew_len A n c w h0 hm).mono fun e w' ⟨h1, h2⟩ => ⟨h1, by rw [← h2]; exact Below.refl _ _⟩
  · refine (rnew_any A n c zs w hr (by omega) (by omega)).mono ?_
    rintro e w' (⟨hok, _⟩ | ⟨_, h1, h2⟩)
    · obtain ⟨z, hz, hz2⟩ : ∃ z ∈ zs, ¬ okSize z := by
        rcases h with e | e | e
        · omega
        · omega
        · exact e
      exact absurd (hok z hz) hz2
    · exact ⟨h1, h2⟩
/-- What was copied: nothing yet, or a disk and the document's that hold the same. -/
def OldOk (v9 v10 : Value) (n : Nat) (os : List Ob) (l : List (Nat × (Nat → SlotD))) : Prop :=
  (v9 = .pointer none ∧ v10 = .pointer none ∧ os = [] ∧ l = []) ∨ ∃ d rb lay D g, v9 = .pointer (some ⟨d, 0, none⟩) ∧ v10 = .pointer (some ⟨g, 0, none⟩) ∧ os = [diskOb d rb n lay D] ∧ l = [(g, D)]
theorem OldOk.cells {v9 v10 : Value} {n : Nat} {os : List Ob} {l : List (Nat × (Nat → SlotD))} (h : OldOk v9 v10 n os l) : AllCells os := by
  rcases h with ⟨_, _, rfl, _⟩ | ⟨d, rb, lay, D, g, _, _, rfl, _⟩
  · exact AllCells.nil
  · exact AllCells.cons (cellOb_disk _ _ _ _ _) AllCells.nil
/-- The walk's state: a disk, the document's, what was copied. -/
def PlayAt (B : Nat) (w0 w : World) (n : Nat) (v5 v7 v9 v10 : Value) : Prop :=
  ∃ d rb lay D g S l os, v5 = .pointer (some ⟨d, 0, none⟩) ∧ v7 = .pointer (some ⟨g, 0, none⟩) ∧ Sep B w0 w (diskOb d rb n lay D :: refsOb S n ((g, D) :: l) :: os) ∧ OldOk v9 v10 n os l
set_option maxRecDepth 100000 in
set_option maxHeartbeats 16000000 in
theorem DiskPlays_w (A : Option Addr) (n c : Nat) (zs : List Int) (A2 : Option Addr) (m c2 : Nat) (sts : Nat → DStep) (w : World) (hr : Reads w w.heap.size 1 A n (ints zs)) (hn : n ≤ c) (hc : c ≤ maxLen) (hst : StepsAt w w.heap.size A2 m sts) (hm : m ≤ c2) (hc2 : c2 ≤ maxLen) :
    Calls Try.prog 6 #[.slice A n c, .slice A2 m c2] w fun e w' => e = .returned (.bool true) ∧ Below w.heap.size w w' := by
  have hlen : zs.length = n := by have := hr.1; rw [ints_length] at this; omega
  have HR := Lib.hid hr
  have HST := Lib.hid hst
  have HSH := Lib.hid (short_any A2 m c2 sts 80 w hst hm hc2)
  have HLEN := Lib.hid hlen
  have hcm : c ≤ maxLen := hc
  unfold maxLen at hc hc2
  clear hr hst hlen
  by_cases hbig : 40 < n
  · go_enter Try.func6, Try.ntmps6
    go_wp2_with fail
    refine (works_any _).mono ?_
    rintro e w9 ⟨rfl, hb⟩
    have HB := Lib.hid hb
    clear hb
    go_wp2_with fail
    go_ret
    exact ⟨rfl, HB.out⟩
  · go_enter Try.func6, Try.ntmps6
    go_wp2_with fail
    refine HSH.out.mono ?_
    rintro e wx ⟨r, rfl, hsh, rfl⟩
    cases r with
    | false =>
      clear hsh
      go_wp2_with fail
      refine (works_any _).mono ?_
      rintro e w9 ⟨rfl, hb⟩
      have HB := Lib.hid hb
      clear hb
      go_wp2_with fail
      go_ret
      exact ⟨rfl, HB.out⟩
    | true =>
      obtain ⟨hm80, hss⟩ := hsh rfl
      have HSS := Lib.hid hss
      clear hsh hss
      by_cases hbad : n < 1 ∨ 34 < n ∨ ∃ z ∈ zs, ¬ okSize z
      · have HBAD := Lib.hid hbad
        clear hbad
        go_wp2_with fail
        refine (dnew_err A n c zs w HR.out (by omega) HBAD.out).mono ?_
        rintro e w1 ⟨rfl, hb⟩
        have HB1 := Lib.hid hb
        clear hb
        go_wp2_with fail
        refine (rnew_err A n c zs w1 ((HR.out.below HB1.out).more HB1.out.size) (by omega) HBAD.out).mono ?_
        rintro e w2 ⟨rfl, hb⟩
        have HB2 := Lib.hid (bt HB1.out hb)
        clear hb
        go_wp2_with fail
        go_loopg [9, 11] 0 (fun q v9 v11 wr => v9 = .pointer none ∧ v11 = .int .i64 0 ∧ w2 = wr)
        case atStart => exact ⟨rfl, rfl, rfl⟩
        case round =>
          obtain ⟨rfl, rfl, rfl⟩ := hrel
          go_wp2_with fail
          all_goals
            refine (works_any _).mono ?_
            rintro e w9 ⟨rfl, hb⟩
            have HB := Lib.hid (bt HB2.out hb)
            clear hb
            go_wp2_with fail
            go_ret
            exact ⟨rfl, HB.out⟩
      · have h1 : 1 ≤ n := by omega
        have h34 : n ≤ 34 := by omega
        have hok : ∀ z ∈ zs, okSize z := fun z hz => by
          apply Classical.byContradiction
          intro hno
          exact hbad (.inr (.inr ⟨z, hz, hno⟩))
        have HOK := Lib.hid hok
        clear hbad hok
        go_wp2_with fail
        refine (sep_dnew (Sep.start w) A n c zs HR.out h1 h34 HOK.out).mono ?_
        rintro e w1 ⟨d, rb, lay, rfl, hs⟩
        have HS1 := Lib.hid hs
        clear hs
        go_wp2_with fail
        refine (rsep_new HS1.out A n c zs ((HR.out.below HS1.out.bel).more HS1.out.bel.size) h1 h34 HOK.out).mono ?_
        rintro e w2 ⟨g, S, rfl, hs⟩
        have HS2 := Lib.hid (hs.perm (.swap _ _ _))
        clear hs
        have hn0 : 0 < n := by omega
        have hm34 : n ≤ 65536 := by omega
        go_wp2_with fail
        go_loopg [5, 7, 9, 10, 11] m (fun q v5 v7 v9 v10 v11 wr => ∃ j : Nat, j + q = m ∧ v11 = .int .i64 j ∧ PlayAt w.heap.size w wr n v5 v7 v9 v10)
        case atStart => exact ⟨0, by omega, rfl, d, rb, lay, _, g, S, [], [], rfl, rfl, HS2.out, .inl ⟨rfl, rfl, rfl, rfl⟩⟩
        case round =>
          clear HS1 HS2 HOK HSH
          obtain ⟨j, hj, rfl, d, rb, lay, D, g, S, l, os, rfl, rfl, hs, hold⟩ := hrel
          have HJ := Lib.hid hj
          have HS := Lib.hid hs
          have HOLD := Lib.hid hold
          have hj' : j ≤ m := by omega
          clear hj hs hold
          by_cases hlt : j < m
          · obtain ⟨ad, v4, v5, hst0⟩ := HST.out j hlt
            have hst' := hst0.below HS.out.bel
            obtain ⟨A4, n4, c4, rfl, e4, h41, h42, h43⟩ := hst0.ok.hv
            obtain ⟨⟨A5, n5, c5, rfl, e5, h51, h52, h53⟩, h54⟩ := hst0.ok.hk
            have hsh := HSS.out j hlt
            have c0 := hst'.c0
            have c1 := hst'.c1
            have c2' := hst'.c2
            have c3 := hst'.c3
            have c4' := hst'.c4
            have c5' := hst'.c5
            obtain rfl := hst0.a
            obtain ⟨st, hstv⟩ : ∃ st, sts j = st := ⟨_, rfl⟩
            rw [hstv] at c0 c1 c2' c3 e4 e5 h43 h53 h54 hsh
            obtain ⟨d0, d1, d2, d3, db, dk⟩ := st
            have HV : Hid (∀ X, Below w.heap.size w X → Holds X (.slice A4 n4 c4) db) := fun X hX => Holds.below ⟨A4, n4, c4, rfl, e4, h41, h42, h43⟩ hX
            have HK : Hid (∀ X, Below w.heap.size w X → Reads X w.heap.size 1 A5 n5 (ints dk)) := fun X hX => h53.below hX
            have HK2 : Hid (n5 ≤ maxLen ∧ ∀ z ∈ dk, z ≤ 9223372036854775807) := ⟨by omega, fun z hz => (h54 z hz).2⟩
            have HDB : Hid (db.length ≤ 1000000) := by have := hsh.1; show db.length ≤ 1000000; simp only at this; omega
            have h42' : c4 ≤ 9223372036854775807 := h42
            have h52' : c5 ≤ 9223372036854775807 := h52
            have HCC := Lib.hid HOLD.out.cells
            clear hst0 hst' e4 e5 h43 h53 h54 hsh hstv h42 h52
            dsimp only at c0 c1 c2' c3
            obtain ⟨bx, hbx⟩ : ∃ bx, bx = wr.heap.size := ⟨_, rfl⟩
            obtain ⟨wa, hwa⟩ : ∃ wa : World, wa = wr.alloc (.cells #[.int .i64 d0, .int .i64 d1, .int .i64 d2, .int .i64 d3, .slice A4 n4 c4, .slice A5 n5 c5] 56) := ⟨_, rfl⟩
            have H5 : Hid (Sep w.heap.size w wa (diskOb d rb n lay D :: refsOb S n ((g, D) :: l) :: blkOb bx 56 #[.int .i64 d0, .int .i64 d1, .int .i64 d2, .int .i64 d3, .slice A4 n4 c4, .slice A5 n5 c5] :: os)) := by
              show Sep _ _ _ _
              rw [hwa, hbx]
              exact (HS.out.newBlk wr.heap.size _ _ rfl).perm (List.perm_middle (l₁ := [_, _])).symm
            have HCEL : Hid (∀ X os', Sep w.heap.size w X os' → blkOb bx 56 #[.int .i64 d0, .int .i64 d1, .int .i64 d2, .int .i64 d3, .slice A4 n4 c4, .slice A5 n5 c5] ∈ os' → X.cell? ⟨bx, 0, none⟩ = some (.int .i64 d0) ∧ X.cell? ⟨bx, 1, none⟩ = some (.int .i64 d1) ∧ X.cell? ⟨bx, 2, none⟩ = some (.int .i64 d2) ∧ X.cell? ⟨bx, 3, none⟩ = some (.int .i64 d3) ∧ X.cell? ⟨bx, 4, none⟩ = some (.slice A4 n4 c4) ∧ X.cell? ⟨bx, 5, none⟩ = some (.slice A5 n5 c5)) := fun X os' h hm => by
              have hb : Blk X bx 56 #[.int .i64 d0, .int .i64 d1, .int .i64 d2, .int .i64 d3, .slice A4 n4 c4, .slice A5 n5 c5] := h.get hm
              exact ⟨hb.cell 0, hb.cell 1, hb.cell 2, hb.cell 3, hb.cell 4, hb.cell 5⟩
            have HWA := Lib.hid hwa
            have HBX := Lib.hid hbx
            clear hwa hbx HS
            go_upto_block 2 with fail
            rw [← HWA.out]
            rw [← HBX.out]
            go_cut [5, 7, 9, 10] (fun s5 s7 s9 s10 wy => ∃ d rb lay D g S l os, s5 = .pointer (some ⟨d, 0, none⟩) ∧ s7 = .pointer (some ⟨g, 0, none⟩) ∧ OldOk s9 s10 n os l ∧ Sep w.heap.size w wy (diskOb d rb n lay D :: refsOb S n ((g, D) :: l) :: blkOb bx 56 #[.int .i64 d0, .int .i64 d1, .int .i64 d2, .int .i64 d3, .slice A4 n4 c4, .slice A5 n5 c5] :: os))
            case first =>
              as_aux_lemma =>
                by_cases e0 : d0 = 0
                · have f0 : (d0 == 0) = true := by simpa using e0
                  clear e0
                  obtain ⟨q0, -, -, -, -, -⟩ := HCEL.out wa _ H5.out (.tail _ (.tail _ (.head _)))
                  go_wp2_with fail
                  clear q0
                  go_loopg [13] 20 (fun q v13 wr => ∃ (i : Nat) (lay : Lay) (D : Nat → SlotD) (S : Nat → Prop), i + q = 20 ∧ v13 = .int .i64 i ∧ Sep w.heap.size w wr (diskOb d rb n lay D :: refsOb S n ((g, D) :: l) :: blkOb bx 56 #[.int .i64 d0, .int .i64 d1, .int .i64 d2, .int .i64 d3, .slice A4 n4 c4, .slice A5 n5 c5] :: os))
                  case atStart => exact ⟨0, lay, D, S, by omega, rfl, H5.out⟩
                  case round =>
                    obtain ⟨i, lay, D, S, hi, rfl, hs⟩ := hrel
                    have HI := Lib.hid hi
                    have HQ := Lib.hid hs
                    have hi' : i ≤ 20 := by omega
                    obtain ⟨-, -, q2, -, -, -⟩ := HCEL.out wr _ hs (.tail _ (.tail _ (.head _)))
                    clear hi hs
                    by_cases ha : i < 1
                    · have t1 : decide ((i : Int) < 1) = true := by simp; omega
                      have HLT : Hid (i < 20) := by show i < 20; omega
                      clear ha
                      obtain ⟨STA, hA⟩ : ∃ STA : World → Prop, STA = fun X => Sep w.heap.size w X (diskOb d rb n lay D :: refsOb S n ((g, D) :: l) :: blkOb bx 56 #[.int .i64 d0, .int .i64 d1, .int .i64 d2, .int .i64 d3, .slice A4 n4 c4, .slice A5 n5 c5] :: os) := ⟨_, rfl⟩
                      obtain ⟨STB, hB⟩ : ∃ STB : World → Prop, STB = fun X => ∃ lay', Sep w.heap.size w X (diskOb d rb n lay' (appDI n D d1 db) :: refsOb S n ((g, D) :: l) :: blkOb bx 56 #[.int .i64 d0, .int .i64 d1, .int .i64 d2, .int .i64 d3, .slice A4 n4 c4, .slice A5 n5 c5] :: os) := ⟨_, rfl⟩
                      obtain ⟨STC, hC⟩ : ∃ STC : World → Prop, STC = fun X => ∃ lay' S', Sep w.heap.size w X (diskOb d rb n lay' (appDI n D d1 db) :: refsOb S' n ((g, (appDI n D d1 db)) :: l) :: blkOb bx 56 #[.int .i64 d0, .int .i64 d1, .int .i64 d2, .int .i64 d3, .slice A4 n4 c4, .slice A5 n5 c5] :: os) := ⟨_, rfl⟩
                      have HC := Lib.hid hC
                      have CA : Hid (∀ X, STA X → Calls Try.prog 18 #[.pointer (some ⟨d, 0, none⟩), .int .i64 d1, .slice A4 n4 c4] X fun e X' => e = .returned (.int .i64 (appEI n D d1 db)) ∧ (X'.cell? ⟨bx, 1, none⟩ = some (.int .i64 d1) ∧ X'.cell? ⟨bx, 4, none⟩ = some (.slice A4 n4 c4)) ∧ STB X') := fun X h => by
                        rw [hA] at h
                        have h : Sep w.heap.size w X (diskOb d rb n lay D :: refsOb S n ((g, D) :: l) :: blkOb bx 56 #[.int .i64 d0, .int .i64 d1, .int .i64 d2, .int .i64 d3, .slice A4 n4 c4, .slice A5 n5 c5] :: os) := h
                        refine (sepI_append h hn0 d1 (HV.out _ h.bel)).mono ?_
                        rintro e X' ⟨h1, lay2, h4⟩
                        exact ⟨h1, ⟨(HCEL.out X' _ h4 (.tail _ (.tail _ (.head _)))).2.1, (HCEL.out X' _ h4 (.tail _ (.tail _ (.head _)))).2.2.2.2.1⟩, by rw [hB]; exact ⟨lay2, h4⟩⟩
                      have CB : Hid (∀ X, STB X → Calls Try.prog 25 #[.pointer (some ⟨g, 0, none⟩), .int .i64 d1, .slice A4 n4 c4] X fun e X' => e = .returned (.int .i64 (appEI n D d1 db)) ∧ (X'.cell? ⟨bx, 1, none⟩ = some (.int .i64 d1) ∧ X'.cell? ⟨bx, 4, none⟩ = some (.slice A4 n4 c4)) ∧ STC X') := fun X h => by
                        rw [hB] at h
                        obtain ⟨lay2, h⟩ := h
                        refine (rsepI_append h hn0 hm34 d1 (HV.out _ h.bel) HDB.out).mono ?_
                        rintro e X' ⟨h1, S2, h4⟩
                        exact ⟨h1, ⟨(HCEL.out X' _ h4 (.tail _ (.tail _ (.head _)))).2.1, (HCEL.out X' _ h4 (.tail _ (.tail _ (.head _)))).2.2.2.2.1⟩, by rw [hC]; exact ⟨lay2, S2, h4⟩⟩
                      have sta0 : STA wr.drew := by rw [hA]; exact HQ.out.drew
                      obtain ⟨q0, q1, q2, q3, q4, q5⟩ := HCEL.out wr _ HQ.out (.tail _ (.tail _ (.head _)))
                      clear hA hB hC
                      go_wp2_with fail
                      go_region_held3 (fun X' => X'.cell? ⟨bx, 1, none⟩ = some (.int .i64 d1) ∧ X'.cell? ⟨bx, 4, none⟩ = some (.slice A4 n4 c4)) ((repeat' apply And.intro) <;> first | assumption | go_keep)
                        (first
                          | (go_at_call 18; refine (CA.out _ (by assumption)).mono ?_; rintro e x4 ⟨rfl, ⟨k1, k2⟩, stb⟩)
                          | (go_at_call 25; refine (CB.out _ (by assumption)).mono ?_; rintro e x5 ⟨rfl, ⟨k3, k4⟩, stc⟩))
                      all_goals
                        have hz := (by assumption : STC _)
                        rw [HC.out] at hz
                        obtain ⟨lay3, S3, hz⟩ := hz
                        have HZ := Lib.hid hz
                        clear hz q0 q1 q2 q3 q4 q5
                        go_wp2_with fail
                        go_roundg (gk - 1)
                        case measure => have := HI.out; have := HLT.out; omega
                        case rel => exact ⟨i + 1, lay3, _, S3, by have := HI.out; have := HLT.out; omega, by go_num, HZ.out⟩
                    · have t1 : decide ((i : Int) < 1) = false := by simp; omega
                      by_cases hb : (i : Int) < d2
                      · have t2 : decide ((i : Int) < d2) = true := by simpa using hb
                        by_cases hc : i < 20
                        · have t3 : decide ((i : Int) < 20) = true := by simp; omega
                          have HLT : Hid (i < 20) := hc
                          clear hb
                          obtain ⟨STA, hA⟩ : ∃ STA : World → Prop, STA = fun X => Sep w.heap.size w X (diskOb d rb n lay D :: refsOb S n ((g, D) :: l) :: blkOb bx 56 #[.int .i64 d0, .int .i64 d1, .int .i64 d2, .int .i64 d3, .slice A4 n4 c4, .slice A5 n5 c5] :: os) := ⟨_, rfl⟩
                          obtain ⟨STB, hB⟩ : ∃ STB : World → Prop, STB = fun X => ∃ lay', Sep w.heap.size w X (diskOb d rb n lay' (appDI n D d1 db) :: refsOb S n ((g, D) :: l) :: blkOb bx 56 #[.int .i64 d0, .int .i64 d1, .int .i64 d2, .int .i64 d3, .slice A4 n4 c4, .slice A5 n5 c5] :: os) := ⟨_, rfl⟩
                          obtain ⟨STC, hC⟩ : ∃ STC : World → Prop, STC = fun X => ∃ lay' S', Sep w.heap.size w X (diskOb d rb n lay' (appDI n D d1 db) :: refsOb S' n ((g, (appDI n D d1 db)) :: l) :: blkOb bx 56 #[.int .i64 d0, .int .i64 d1, .int .i64 d2, .int .i64 d3, .slice A4 n4 c4, .slice A5 n5 c5] :: os) := ⟨_, rfl⟩
                          have HC := Lib.hid hC
                          have CA : Hid (∀ X, STA X → Calls Try.prog 18 #[.pointer (some ⟨d, 0, none⟩), .int .i64 d1, .slice A4 n4 c4] X fun e X' => e = .returned (.int .i64 (appEI n D d1 db)) ∧ (X'.cell? ⟨bx, 1, none⟩ = some (.int .i64 d1) ∧ X'.cell? ⟨bx, 4, none⟩ = some (.slice A4 n4 c4)) ∧ STB X') := fun X h => by
                            rw [hA] at h
                            have h : Sep w.heap.size w X (diskOb d rb n lay D :: refsOb S n ((g, D) :: l) :: blkOb bx 56 #[.int .i64 d0, .int .i64 d1, .int .i64 d2, .int .i64 d3, .slice A4 n4 c4, .slice A5 n5 c5] :: os) := h
                            refine (sepI_append h hn0 d1 (HV.out _ h.bel)).mono ?_
                            rintro e X' ⟨h1, lay2, h4⟩
                            exact ⟨h1, ⟨(HCEL.out X' _ h4 (.tail _ (.tail _ (.head _)))).2.1, (HCEL.out X' _ h4 (.tail _ (.tail _ (.head _)))).2.2.2.2.1⟩, by rw [hB]; exact ⟨lay2, h4⟩⟩
                          have CB : Hid (∀ X, STB X → Calls Try.prog 25 #[.pointer (some ⟨g, 0, none⟩), .int .i64 d1, .slice A4 n4 c4] X fun e X' => e = .returned (.int .i64 (appEI n D d1 db)) ∧ (X'.cell? ⟨bx, 1, none⟩ = some (.int .i64 d1) ∧ X'.cell? ⟨bx, 4, none⟩ = some (.slice A4 n4 c4)) ∧ STC X') := fun X h => by
                            rw [hB] at h
                            obtain ⟨lay2, h⟩ := h
                            refine (rsepI_append h hn0 hm34 d1 (HV.out _ h.bel) HDB.out).mono ?_
                            rintro e X' ⟨h1, S2, h4⟩
                            exact ⟨h1, ⟨(HCEL.out X' _ h4 (.tail _ (.tail _ (.head _)))).2.1, (HCEL.out X' _ h4 (.tail _ (.tail _ (.head _)))).2.2.2.2.1⟩, by rw [hC]; exact ⟨lay2, S2, h4⟩⟩
                          have sta0 : STA wr.drew := by rw [hA]; exact HQ.out.drew
                          obtain ⟨q0, q1, q2, q3, q4, q5⟩ := HCEL.out wr _ HQ.out (.tail _ (.tail _ (.head _)))
                          clear hA hB hC
                          go_wp2_with fail
                          go_region_held3 (fun X' => X'.cell? ⟨bx, 1, none⟩ = some (.int .i64 d1) ∧ X'.cell? ⟨bx, 4, none⟩ = some (.slice A4 n4 c4)) ((repeat' apply And.intro) <;> first | assumption | go_keep)
                            (first
                              | (go_at_call 18; refine (CA.out _ (by assumption)).mono ?_; rintro e x4 ⟨rfl, ⟨k1, k2⟩, stb⟩)
                              | (go_at_call 25; refine (CB.out _ (by assumption)).mono ?_; rintro e x5 ⟨rfl, ⟨k3, k4⟩, stc⟩))
                          all_goals
                            have hz := (by assumption : STC _)
                            rw [HC.out] at hz
                            obtain ⟨lay3, S3, hz⟩ := hz
                            have HZ := Lib.hid hz
                            clear hz q0 q1 q2 q3 q4 q5
                            go_wp2_with fail
                            go_roundg (gk - 1)
                            case measure => have := HI.out; have := HLT.out; omega
                            case rel => exact ⟨i + 1, lay3, _, S3, by have := HI.out; have := HLT.out; omega, by go_num, HZ.out⟩
                        · have t3 : decide ((i : Int) < 20) = false := by simp; omega
                          clear hb
                          go_wp2_with fail
                          go_meet
                          exact ⟨d, rb, lay, _, g, S, l, os, rfl, rfl, HOLD.out, HQ.out⟩
                      · have t2 : decide ((i : Int) < d2) = false := by simpa using hb
                        clear hb
                        go_wp2_with fail
                        go_meet
                        exact ⟨d, rb, lay, _, g, S, l, os, rfl, rfl, HOLD.out, HQ.out⟩
                by_cases e1 : d0 = 1
                · have f1 : (d0 == 1) = true := by simpa using e1
                  have f0 : (d0 == 0) = false := by simpa using e0
                  clear e0 e1
                  obtain ⟨STA, hA⟩ : ∃ STA : World → Prop, STA = fun X => Sep w.heap.size w X (diskOb d rb n lay D :: refsOb S n ((g, D) :: l) :: blkOb bx 56 #[.int .i64 d0, .int .i64 d1, .int .i64 d2, .int .i64 d3, .slice A4 n4 c4, .slice A5 n5 c5] :: os) := ⟨_, rfl⟩
                  obtain ⟨STB, hB⟩ : ∃ STB : World → Prop, STB = fun X => ∃ lay', Sep w.heap.size w X (diskOb d rb n lay' (syncDI n D d1) :: refsOb S n ((g, D) :: l) :: blkOb bx 56 #[.int .i64 d0, .int .i64 d1, .int .i64 d2, .int .i64 d3, .slice A4 n4 c4, .slice A5 n5 c5] :: os) := ⟨_, rfl⟩
                  obtain ⟨STC, hC⟩ : ∃ STC : World → Prop, STC = fun X => ∃ lay' S', Sep w.heap.size w X (diskOb d rb n lay' (syncDI n D d1) :: refsOb S' n ((g, (syncDI n D d1)) :: l) :: blkOb bx 56 #[.int .i64 d0, .int .i64 d1, .int .i64 d2, .int .i64 d3, .slice A4 n4 c4, .slice A5 n5 c5] :: os) := ⟨_, rfl⟩
                  have HC := Lib.hid hC
                  have CA : Hid (∀ X, STA X → Calls Try.prog 19 #[.pointer (some ⟨d, 0, none⟩), .int .i64 d1] X fun e X' => e = .returned (.int .i64 (okEI n d1)) ∧ (X'.cell? ⟨bx, 1, none⟩ = some (.int .i64 d1)) ∧ STB X') := fun X h => by
                    rw [hA] at h
                    have h : Sep w.heap.size w X (diskOb d rb n lay D :: refsOb S n ((g, D) :: l) :: blkOb bx 56 #[.int .i64 d0, .int .i64 d1, .int .i64 d2, .int .i64 d3, .slice A4 n4 c4, .slice A5 n5 c5] :: os) := h
                    refine (sepI_sync h hn0 d1).mono ?_
                    rintro e X' ⟨h1, lay2, h4⟩
                    exact ⟨h1, (HCEL.out X' _ h4 (.tail _ (.tail _ (.head _)))).2.1, by rw [hB]; exact ⟨lay2, h4⟩⟩
                  have CB : Hid (∀ X, STB X → Calls Try.prog 26 #[.pointer (some ⟨g, 0, none⟩), .int .i64 d1] X fun e X' => e = .returned (.int .i64 (okEI n d1)) ∧ (X'.cell? ⟨bx, 1, none⟩ = some (.int .i64 d1)) ∧ STC X') := fun X h => by
                    rw [hB] at h
                    obtain ⟨lay2, h⟩ := h
                    refine (rsepI_sync h hn0 hm34 d1).mono ?_
                    rintro e X' ⟨h1, S2, h4⟩
                    exact ⟨h1, (HCEL.out X' _ h4 (.tail _ (.tail _ (.head _)))).2.1, by rw [hC]; exact ⟨lay2, S2, h4⟩⟩
                  have sta0 : STA wa.drew := by rw [hA]; exact H5.out.drew
                  obtain ⟨q0, q1, q2, q3, q4, q5⟩ := HCEL.out wa _ H5.out (.tail _ (.tail _ (.head _)))
                  clear hA hB hC
                  go_wp2_with fail
                  go_region_held3 (fun X' => X'.cell? ⟨bx, 1, none⟩ = some (.int .i64 d1)) (first | assumption | go_keep)
                    (first
                      | (go_at_call 19; refine (CA.out _ (by assumption)).mono ?_; rintro e x4 ⟨rfl, k1, stb⟩)
                      | (go_at_call 26; refine (CB.out _ (by assumption)).mono ?_; rintro e x5 ⟨rfl, k3, stc⟩))
                  all_goals
                    have hz := (by assumption : STC _)
                    rw [HC.out] at hz
                    obtain ⟨lay3, S3, hz⟩ := hz
                    have HZ := Lib.hid hz
                    clear hz q0 q1 q2 q3 q4 q5
                    go_wp2_with fail
                    go_meet
                    exact ⟨d, rb, lay3, _, g, S3, l, os, rfl, rfl, HOLD.out, HZ.out⟩
                by_cases e2 : d0 = 2
                · have f2 : (d0 == 2) = true := by simpa using e2
                  have f0 : (d0 == 0) = false := by simpa using e0
                  have f1 : (d0 == 1) = false := by simpa using e1
                  clear e0 e1 e2
                  obtain ⟨STA, hA⟩ : ∃ STA : World → Prop, STA = fun X => Sep w.heap.size w X (diskOb d rb n lay D :: refsOb S n ((g, D) :: l) :: blkOb bx 56 #[.int .i64 d0, .int .i64 d1, .int .i64 d2, .int .i64 d3, .slice A4 n4 c4, .slice A5 n5 c5] :: os) := ⟨_, rfl⟩
                  obtain ⟨STB, hB⟩ : ∃ STB : World → Prop, STB = fun X => ∃ lay', Sep w.heap.size w X (diskOb d rb n lay' (eraseDI n D d1) :: refsOb S n ((g, D) :: l) :: blkOb bx 56 #[.int .i64 d0, .int .i64 d1, .int .i64 d2, .int .i64 d3, .slice A4 n4 c4, .slice A5 n5 c5] :: os) := ⟨_, rfl⟩
                  obtain ⟨STC, hC⟩ : ∃ STC : World → Prop, STC = fun X => ∃ lay' S', Sep w.heap.size w X (diskOb d rb n lay' (eraseDI n D d1) :: refsOb S' n ((g, (eraseDI n D d1)) :: l) :: blkOb bx 56 #[.int .i64 d0, .int .i64 d1, .int .i64 d2, .int .i64 d3, .slice A4 n4 c4, .slice A5 n5 c5] :: os) := ⟨_, rfl⟩
                  have HC := Lib.hid hC
                  have CA : Hid (∀ X, STA X → Calls Try.prog 20 #[.pointer (some ⟨d, 0, none⟩), .int .i64 d1] X fun e X' => e = .returned (.int .i64 (okEI n d1)) ∧ (X'.cell? ⟨bx, 1, none⟩ = some (.int .i64 d1)) ∧ STB X') := fun X h => by
                    rw [hA] at h
                    have h : Sep w.heap.size w X (diskOb d rb n lay D :: refsOb S n ((g, D) :: l) :: blkOb bx 56 #[.int .i64 d0, .int .i64 d1, .int .i64 d2, .int .i64 d3, .slice A4 n4 c4, .slice A5 n5 c5] :: os) := h
                    refine (sepI_erase h hn0 d1).mono ?_
                    rintro e X' ⟨h1, lay2, h4⟩
                    exact ⟨h1, (HCEL.out X' _ h4 (.tail _ (.tail _ (.head _)))).2.1, by rw [hB]; exact ⟨lay2, h4⟩⟩
                  have CB : Hid (∀ X, STB X → Calls Try.prog 27 #[.pointer (some ⟨g, 0, none⟩), .int .i64 d1] X fun e X' => e = .returned (.int .i64 (okEI n d1)) ∧ (X'.cell? ⟨bx, 1, none⟩ = some (.int .i64 d1)) ∧ STC X') := fun X h => by
                    rw [hB] at h
                    obtain ⟨lay2, h⟩ := h
                    refine (rsepI_erase h hn0 hm34 d1).mono ?_
                    rintro e X' ⟨h1, S2, h4⟩
                    exact ⟨h1, (HCEL.out X' _ h4 (.tail _ (.tail _ (.head _)))).2.1, by rw [hC]; exact ⟨lay2, S2, h4⟩⟩
                  have sta0 : STA wa.drew := by rw [hA]; exact H5.out.drew
                  obtain ⟨q0, q1, q2, q3, q4, q5⟩ := HCEL.out wa _ H5.out (.tail _ (.tail _ (.head _)))
                  clear hA hB hC
                  go_wp2_with fail
                  go_region_held3 (fun X' => X'.cell? ⟨bx, 1, none⟩ = some (.int .i64 d1)) (first | assumption | go_keep)
                    (first
                      | (go_at_call 20; refine (CA.out _ (by assumption)).mono ?_; rintro e x4 ⟨rfl, k1, stb⟩)
                      | (go_at_call 27; refine (CB.out _ (by assumption)).mono ?_; rintro e x5 ⟨rfl, k3, stc⟩))
                  all_goals
                    have hz := (by assumption : STC _)
                    rw [HC.out] at hz
                    obtain ⟨lay3, S3, hz⟩ := hz
                    have HZ := Lib.hid hz
                    clear hz q0 q1 q2 q3 q4 q5
                    go_wp2_with fail
                    go_meet
                    exact ⟨d, rb, lay3, _, g, S3, l, os, rfl, rfl, HOLD.out, HZ.out⟩
                by_cases e4 : d0 = 4
                · have f4 : (d0 == 4) = true := by simpa using e4
                  have f0 : (d0 == 0) = false := by simpa using e0
                  have f1 : (d0 == 1) = false := by simpa using e1
                  have f2 : (d0 == 2) = false := by simpa using e2
                  clear e0 e1 e2 e4
                  obtain ⟨STA, hA⟩ : ∃ STA : World → Prop, STA = fun X => Sep w.heap.size w X (diskOb d rb n lay D :: refsOb S n ((g, D) :: l) :: blkOb bx 56 #[.int .i64 d0, .int .i64 d1, .int .i64 d2, .int .i64 d3, .slice A4 n4 c4, .slice A5 n5 c5] :: os) := ⟨_, rfl⟩
                  obtain ⟨STB, hB⟩ : ∃ STB : World → Prop, STB = fun X => ∃ lay', Sep w.heap.size w X (diskOb d rb n lay' (crashDI dk D) :: refsOb S n ((g, D) :: l) :: blkOb bx 56 #[.int .i64 d0, .int .i64 d1, .int .i64 d2, .int .i64 d3, .slice A4 n4 c4, .slice A5 n5 c5] :: os) := ⟨_, rfl⟩
                  obtain ⟨STC, hC⟩ : ∃ STC : World → Prop, STC = fun X => ∃ lay' S', Sep w.heap.size w X (diskOb d rb n lay' (crashDI dk D) :: refsOb S' n ((g, (crashDI dk D)) :: l) :: blkOb bx 56 #[.int .i64 d0, .int .i64 d1, .int .i64 d2, .int .i64 d3, .slice A4 n4 c4, .slice A5 n5 c5] :: os) := ⟨_, rfl⟩
                  have HC := Lib.hid hC
                  have CA : Hid (∀ X, STA X → Calls Try.prog 22 #[.pointer (some ⟨d, 0, none⟩), .slice A5 n5 c5] X fun e X' => e = .returned (.int .i64 (crashEI dk)) ∧ (X'.cell? ⟨bx, 5, none⟩ = some (.slice A5 n5 c5)) ∧ STB X') := fun X h => by
                    rw [hA] at h
                    have h : Sep w.heap.size w X (diskOb d rb n lay D :: refsOb S n ((g, D) :: l) :: blkOb bx 56 #[.int .i64 d0, .int .i64 d1, .int .i64 d2, .int .i64 d3, .slice A4 n4 c4, .slice A5 n5 c5] :: os) := h
                    refine (sepI_crash h (AllCells.cons (cellOb_refs _ _ _) (AllCells.cons (cellOb_blk _ _ _) HCC.out)) hn0 hm34 A5 n5 c5 dk HK2.out.1 (fun Y D2 hY => (HK.out Y hY.bel).more hY.big) HK2.out.2).mono ?_
                    rintro e X' ⟨h1, h4⟩
                    exact ⟨h1, (HCEL.out X' _ h4 (.tail _ (.tail _ (.head _)))).2.2.2.2.2, by rw [hB]; exact ⟨lay, h4⟩⟩
                  have CB : Hid (∀ X, STB X → Calls Try.prog 28 #[.pointer (some ⟨g, 0, none⟩), .slice A5 n5 c5] X fun e X' => e = .returned (.int .i64 (crashEI dk)) ∧ (X'.cell? ⟨bx, 5, none⟩ = some (.slice A5 n5 c5)) ∧ STC X') := fun X h => by
                    rw [hB] at h
                    obtain ⟨lay2, h⟩ := h
                    refine (rsepI_crash h hn0 hm34 A5 n5 c5 dk HK2.out.1 (fun Y hY => ((HK.out X h.bel).chg hY h.big (fun k hk e => by have := h.ref1nd; omega)).more (Nat.le_trans h.big hY.size)) HK2.out.2).mono ?_
                    rintro e X' ⟨h1, S2, h4⟩
                    exact ⟨h1, (HCEL.out X' _ h4 (.tail _ (.tail _ (.head _)))).2.2.2.2.2, by rw [hC]; exact ⟨lay2, S2, h4⟩⟩
                  have sta0 : STA wa.drew := by rw [hA]; exact H5.out.drew
                  obtain ⟨q0, q1, q2, q3, q4, q5⟩ := HCEL.out wa _ H5.out (.tail _ (.tail _ (.head _)))
                  clear hA hB hC
                  go_wp2_with fail
                  go_region_held3 (fun X' => X'.cell? ⟨bx, 5, none⟩ = some (.slice A5 n5 c5)) (first | assumption | go_keep)
                    (first
                      | (go_at_call 22; refine (CA.out _ (by assumption)).mono ?_; rintro e x4 ⟨rfl, k1, stb⟩)
                      | (go_at_call 28; refine (CB.out _ (by assumption)).mono ?_; rintro e x5 ⟨rfl, k3, stc⟩))
                  all_goals
                    have hz := (by assumption : STC _)
                    rw [HC.out] at hz
                    obtain ⟨lay3, S3, hz⟩ := hz
                    have HZ := Lib.hid hz
                    clear hz q0 q1 q2 q3 q4 q5
                    go_wp2_with fail
                    go_meet
                    exact ⟨d, rb, lay3, _, g, S3, l, os, rfl, rfl, HOLD.out, HZ.out⟩
                by_cases e5 : d0 = 5
                · have f5 : (d0 == 5) = true := by simpa using e5
                  have f0 : (d0 == 0) = false := by simpa using e0
                  have f1 : (d0 == 1) = false := by simpa using e1
                  have f2 : (d0 == 2) = false := by simpa using e2
                  have f4 : (d0 == 4) = false := by simpa using e4
                  clear e0 e1 e2 e4 e5
                  obtain ⟨q0, -, -, -, -, -⟩ := HCEL.out wa _ H5.out (.tail _ (.tail _ (.head _)))
                  go_wp2_with fail
                  clear q0
                  refine (sep_dcopy H5.out H5.out.disk hn0 hm34).mono ?_
                  rintro e x4 ⟨dn, rbn, layn, rfl, hs⟩
                  have HX4 : Hid (Sep w.heap.size w x4 (refsOb S n ((g, D) :: l) :: diskOb dn rbn n layn D :: diskOb d rb n lay D :: [blkOb bx 56 #[.int .i64 d0, .int .i64 d1, .int .i64 d2, .int .i64 d3, .slice A4 n4 c4, .slice A5 n5 c5]])) :=
                    (hs.sub (((List.nil_sublist os).cons_cons _).cons_cons _ |>.cons_cons _ |>.cons_cons _)).perm (((List.Perm.swap _ _ _).cons _).trans (.swap _ _ _))
                  clear hs
                  go_wp2_with fail
                  refine (rsep_copy HX4.out hn0 hm34).mono ?_
                  rintro e x5 ⟨g2, S2, rfl, hs⟩
                  have HX5 : Hid (Sep w.heap.size w x5 (diskOb dn rbn n layn D :: refsOb S2 n [(g2, D), (g, D)] :: blkOb bx 56 #[.int .i64 d0, .int .i64 d1, .int .i64 d2, .int .i64 d3, .slice A4 n4 c4, .slice A5 n5 c5] :: [diskOb d rb n lay D])) :=
                    hs.perm ((List.Perm.swap _ _ _).trans (((List.Perm.swap _ _ _).cons _).cons _))
                  clear hs
                  go_wp2_with fail
                  go_meet
                  exact ⟨dn, rbn, layn, _, g2, S2, _, _, rfl, rfl, .inr ⟨d, rb, lay, D, g, rfl, rfl, rfl, rfl⟩, HX5.out⟩
                have t0 : (d0 == 0) = false := by simpa using e0
                have t1 : (d0 == 1) = false := by simpa using e1
                have t2 : (d0 == 2) = false := by simpa using e2
                have t4 : (d0 == 4) = false := by simpa using e4
                have t5 : (d0 == 5) = false := by simpa using e5
                clear e0 e1 e2 e4 e5
                obtain ⟨q0, -, -, -, -, -⟩ := HCEL.out wa _ H5.out (.tail _ (.tail _ (.head _)))
                go_wp2_with fail
                go_meet
                exact ⟨d, rb, lay, _, g, S, l, os, rfl, rfl, HOLD.out, H5.out⟩
            case rest =>
              obtain ⟨d, rb, lay, D, g, S, l, os, rfl, rfl, hold, hs⟩ := hcut
              have H6 := Lib.hid hs
              have HO6 := Lib.hid hold
              clear hs hold
              as_aux_lemma =>
                obtain ⟨-, q1, q2, q3, -, -⟩ := HCEL.out wc _ H6.out (.tail _ (.tail _ (.head _)))
                go_wp2_with fail
                refine (alike_any H6.out.disk H6.out.ref1 hn0 hm34 d1 d2 d3).mono ?_
                rintro e x7 ⟨rfl, hb⟩
                have H7 := Lib.hid (H6.out.below hb)
                clear hb q1 q2 q3
                have hrem : Int.tmod (j : Int) 8 = ((j % 8 : Nat) : Int) := by rw [Int.tmod_eq_emod_of_nonneg (by omega)]; omega
                by_cases h8 : j % 8 = 7
                · rw [h8] at hrem
                  go_wp2_with fail
                  refine (whole_any H7.out.disk H7.out.ref1 hn0 hm34).mono ?_
                  rintro e x8 ⟨rfl, hb⟩
                  have H8 := Lib.hid (H7.out.below hb)
                  clear hb
                  go_wp2_with fail
                  go_roundg (gk - 1)
                  case measure => have := HJ.out; omega
                  case rel => exact ⟨j + 1, by have := HJ.out; omega, by go_num, d, rb, lay, D, g, S, l, os, rfl, rfl, H8.out.sub (((List.sublist_cons_self _ _).cons_cons _).cons_cons _), HO6.out⟩
                · have h9 : ((((j % 8 : Nat) : Int)) == 7) = false := by simp; omega
                  go_wp2_with fail
                  go_roundg (gk - 1)
                  case measure => have := HJ.out; omega
                  case rel => exact ⟨j + 1, by have := HJ.out; omega, by go_num, d, rb, lay, D, g, S, l, os, rfl, rfl, H7.out.sub (((List.sublist_cons_self _ _).cons_cons _).cons_cons _), HO6.out⟩
          · have e8 : j = m := by omega
            subst e8
            go_wp2_with fail
            refine (whole_any HS.out.disk HS.out.ref1 hn0 hm34).mono ?_
            rintro e x7 ⟨rfl, hb⟩
            have H7 := Lib.hid (HS.out.below hb)
            clear hb
            rcases HOLD.out with ⟨rfl, rfl, rfl, rfl⟩ | ⟨dold, rbo, layo, Do, gold, rfl, rfl, rfl, rfl⟩
            · go_wp2_with fail
              refine (works_any _).mono ?_
              rintro e w9 ⟨rfl, hb⟩
              have HB := Lib.hid (bt H7.out.bel hb)
              clear hb
              go_wp2_with fail
              go_ret
              exact ⟨rfl, HB.out⟩
            · have hdo : IsDisk x7 dold rbo n layo Do := H7.out.get (.tail _ (.tail _ (.head _)))
              have hro : IsR x7 S gold n Do := by
                have h' : (∀ p, p ∈ [(g, D), (gold, Do)] → IsR x7 S p.1 n p.2) ∧ _ := H7.out.get (.tail _ (.head _))
                exact h'.1 _ (.tail _ (.head _))
              have HDO := Lib.hid hdo
              have HRO := Lib.hid hro
              clear hdo hro
              go_wp2_with fail
              refine (whole_any HDO.out HRO.out hn0 hm34).mono ?_
              rintro e x8 ⟨rfl, hb⟩
              have H8 := Lib.hid (bt H7.out.bel hb)
              clear hb
              go_wp2_with fail
              refine (works_any _).mono ?_
              rintro e w9 ⟨rfl, hb⟩
              have HB := Lib.hid (bt H8.out hb)
              clear hb
              go_wp2_with fail
              go_ret
              exact ⟨rfl, HB.out⟩
theorem DiskPlays_walk (v0 v1 : Value) (w : World) (h0 : ArgIn Try.prog w 32 v0) (h1 : ArgIn Try.prog w 50 v1) :
    Calls Try.prog 6 #[v0, v1] w fun e w' => e = .returned (.bool true) ∧ Below w.heap.size w w' := by
  obtain ⟨A2, m, c2, sts, rfl, k1, k2, k3⟩ := steps_arg h1
  have hC1 : Try.prog.cellsOf 3 = 1 := by kernel_rfl
  obtain ⟨A, n, c, xs, rfl, y1, y2, y3, y4⟩ := h0.slice (e := 3) Try.underlying32 (by rw [hC1]; omega)
  rw [hC1] at y3 y4
  obtain ⟨zs, ⟨A', n', c', e, e1, e2, e3, e4⟩, _⟩ := ints_of_rd y1 y2 y3 y4
  injection e with e5 e6 e7
  subst e5 e6 e7
  exact DiskPlays_w A n c zs A2 m c2 sts w e4 y1 y2 k3 k1 k2
end Go.Proofs.Ytelobbigpgfobaa

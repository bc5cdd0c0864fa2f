/-
  The walk of the law DeviceCopies: it returns true and writes nothing that was there. No condition.
-/
import Derived.Test.YteglaedkhopbgaaMJ
import Derived.Deep.QuietTactic
import Derived.BigQuiet
namespace Go.Proofs.Yteglaedkhopbgaa
open Go.RowKit Go.Shelf
set_option linter.unusedVariables false
set_option maxHeartbeats 16000000 in
set_option maxRecDepth 100000 in
theorem DeviceCopies_w (a b : BitVec 8) (A : Option Addr) (m c : Nat) (ts : Nat → Turn3) (A' : Option Addr) (m' c' : Nat) (ts' : Nat → Turn3) (f : BitVec 8) (w : World) (hr : TurnsAt w w.heap.size A m ts) (hn : m ≤ c) (hc : c ≤ maxLen) (hr' : TurnsAt w w.heap.size A' m' ts') (hn' : m' ≤ c') (hc' : c' ≤ maxLen) :
    Calls Try.prog 8 #[.int .u8 (n8 a), .int .u8 (n8 b), .slice A m c, .slice A' m' c', .int .u8 (n8 f)] w fun e w' => e = .returned (.bool true) ∧ Below w.heap.size w w' := by
  have HR := Lib.hid hr
  have HR' := Lib.hid hr'
  unfold maxLen at hc hc'
  clear hr hr'
  by_cases hm : 50 < m
  · go_enter Try.func8, Try.ntmps8
    go_wp2_with fail
    refine (works_any _).mono ?_
    rintro e w9 ⟨rfl, hb⟩
    have HB := Lib.hid hb
    clear hb
    go_wp2_with fail
    go_ret
    exact ⟨rfl, HB.out⟩
  by_cases hm' : 30 < m'
  · go_enter Try.func8, Try.ntmps8
    go_wp2_with fail
    refine (works_any _).mono ?_
    rintro e w9 ⟨rfl, hb⟩
    have HB := Lib.hid hb
    clear hb
    go_wp2_with fail
    go_ret
    exact ⟨rfl, HB.out⟩
  obtain ⟨hf1, hf2⟩ := n8_bd f
  go_enter Try.func8, Try.ntmps8
  go_wp2_with fail
  refine (sep_vbegin (Sep.start w) a b).mono ?_
  rintro e w1 ⟨v, L, rfl, hs⟩
  obtain ⟨n, hnn⟩ : ∃ n, a.toNat % 4 + 2 = n := ⟨_, rfl⟩
  obtain ⟨sz, hsz⟩ : ∃ sz, b.toNat % 40 + 1 = sz := ⟨_, rfl⟩
  have hn2 : 2 ≤ n := by omega
  have hn5 : n ≤ 5 := by omega
  rw [hnn, hsz] at hs
  rw [hnn]
  have HS1 := Lib.hid hs
  clear hs hnn hsz
  go_wp2_with fail
  go_loopg [13] m (fun q v13 wr => ∃ (j : Nat) (L' : DLay), j + q = m ∧ v13 = .int .i64 j ∧ Sep w.heap.size w wr [devOb v L' (runV (newVD n sz) ts j)])
  case atStart => exact ⟨0, L, by omega, rfl, HS1.out⟩
  case round =>
    obtain ⟨j, L1, hj, rfl, hs⟩ := hrel
    have HJ := Lib.hid hj
    have hj' : j ≤ m := by omega
    have HS := Lib.hid hs
    have hnum := runV_new n sz ts j
    by_cases hlt : j < m
    · obtain ⟨ad, ht⟩ := HR.out.below hs.bel j hlt
      obtain rfl := ht.a
      have c0 := ht.c0
      have c1 := ht.c1
      have c2 := ht.c2
      have HDO := Lib.hid (sep_vdo HS.out AllCells.nil (by omega) (ts j).a (ts j).s (ts j).b n j hnum.1 (by omega))
      unfold turn3V at HDO
      clear hj hs ht hnum
      go_wp2_with fail
      refine HDO.out.mono ?_
      rintro e w3 ⟨rfl, L3, hs⟩
      have HS3 := Lib.hid hs
      clear hs c0 c1 c2 HDO
      go_wp2_with fail
      go_roundg (gk - 1)
      case measure => have := HJ.out; omega
      case rel => exact ⟨j + 1, L3, by have := HJ.out; omega, by go_num, HS3.out⟩
    · obtain ⟨X, hX⟩ : ∃ X, runV (newVD n sz) ts j = X := ⟨_, rfl⟩
      have hp : Peace X n sz := by rw [← hX]; exact calm_run (calm_new n sz) ts j
      rw [hX] at hnum
      have HSX : Hid (Sep w.heap.size w wr [devOb v L1 X]) := by rw [← hX]; exact hs
      have HP := Lib.hid hp
      have hXn := hp.hn
      have HXO : Hid (X.ops ≤ 50) := by show _ ≤ _; omega
      have HXN := Lib.hid hXn
      clear hj hs hX hp hnum hXn HS
      go_wp2_with fail
      refine (dev_disk HSX.out.dev).mono ?_
      rintro e w2 ⟨d', rb', lay', rfl, hd, _, hb⟩
      have HS2 := Lib.hid (HSX.out.below hb)
      have HD := Lib.hid hd
      clear hd hb
      go_wp2_with fail
      refine (sep_contents HS2.out HD.out (by omega) (by rw [HXN.out]; omega)).mono ?_
      rintro e w3 ⟨u1, v1, rfl, hs⟩
      rw [HXN.out] at hs
      obtain ⟨A1, q1, rfl, hq1, hq1m⟩ := row_form (hs.get (.head _))
      obtain ⟨A2, q2, rfl, hq2, hq2m⟩ := row_form (hs.get (.tail _ (.head _)))
      obtain ⟨rest, hrest⟩ : ∃ rest, rest = [rowOb 9 1 (.slice A1 (n + 2) q1) (n + 2) (strs X.D (n + 2)), rowOb 3 1 (.slice A2 (n + 2) q2) (n + 2) (ints (durs X.D (n + 2)))] := ⟨_, rfl⟩
      have HS3 : Hid (Sep w.heap.size w w3 (devOb v L1 X :: rest)) := by
        show Sep _ _ _ _
        rw [hrest]
        exact hs.perm (List.perm_append_comm (l₁ := [_, _]) (l₂ := [_]))
      have HREST := Lib.hid hrest
      have HCR : Hid (AllCells rest) := by
        show AllCells _
        rw [hrest]
        exact AllCells.cons (cellOb_row _ _ _ _ _) (AllCells.cons (cellOb_row _ _ _ _ _) AllCells.nil)
      unfold maxLen at hq1m hq2m
      clear hs HD hrest
      go_wp2_with fail
      refine (dev_disk HS3.out.dev).mono ?_
      rintro e w4 ⟨d', rb', lay', rfl, hd, hfr, hb⟩
      have HS4 := Lib.hid (HS3.out.add (a := diskOb d' rb' (X.n + 2) lay' X.D) hb hd hfr)
      clear hd hfr hb
      go_wp2_with fail
      refine (sep_derase HS4.out (by omega) 0 (by omega)).mono ?_
      rintro e w5 ⟨rfl, lay5, hs⟩
      have HS5 : Hid (Sep w.heap.size w w5 (devOb v L1 X :: rest)) := hs.sub (.cons _ (List.Sublist.refl _))
      clear hs
      obtain ⟨at_, hat⟩ : ∃ at_ : Nat, n8 f % 40 = (at_ : Int) := ⟨(n8 f % 40).toNat, by omega⟩
      have hat40 : at_ < 40 := by omega
      go_wp2_with fail
      rw [hat]
      refine (plan_any (1 + (at_ : Int)) true _ 1 1 _).mono ?_
      rintro e w6 ⟨rfl, hb⟩
      have HS6 := Lib.hid ((HS5.out.newBlk _ 3 #[Value.int .i64 1] rfl).below hb)
      clear hb
      go_wp2_with fail
      refine (sep_varm_blk HS6.out HCR.out (1 + (at_ : Int)) true [1] 1 rfl rfl (by unfold maxLen; omega) (by omega)).mono ?_
      rintro e w7 ⟨rfl, L7, hs⟩
      have hok : okPlan (1 + (at_ : Int)) [1] := ⟨by omega, by decide, by intro z hz; simp at hz; omega⟩
      obtain ⟨Y, hY⟩ : ∃ Y, armX X (1 + (at_ : Int)) true [1] = Y := ⟨_, rfl⟩
      have hYX : Y = { X with T := armP (1 + (at_ : Int)) true [1] } := by
        rw [← hY]
        unfold armX
        rw [if_pos hok, if_neg (by omega)]
      have HYD : Hid (Y.D = X.D ∧ Y.n = n ∧ Y.ops ≤ 50 ∧ Y.down = false) := by
        rw [hYX]
        exact ⟨rfl, HXN.out, HXO.out, HP.out.up⟩
      rw [hY] at hs
      rw [show armE (1 + (at_ : Int)) [1] = 0 from by unfold armE; rw [if_pos hok]]
      have HS7 := Lib.hid hs
      clear hs hok hY hYX
      go_wp2_with fail
      refine (sep_vcopy HS7.out HS7.out.dev).mono ?_
      rintro e w8 ⟨va, La, rfl, hs⟩
      have HS8 := Lib.hid hs
      clear hs
      go_wp2_with fail
      refine (sep_vcopy HS8.out (HS8.out.get (.tail _ (.head _)))).mono ?_
      rintro e w9 ⟨vb, Lb, rfl, hs⟩
      have HS9 := Lib.hid hs
      clear hs
      go_wp2_with fail
      go_loopg [18] m' (fun q v18 wr => ∃ (i : Nat) (Lb' La' : DLay), i + q = m' ∧ v18 = .int .i64 i ∧ Sep w.heap.size w wr (devOb vb Lb' (runV Y ts' i) :: devOb va La' (runV Y ts' i) :: devOb v L7 Y :: rest))
      case atStart => exact ⟨0, Lb, La, by omega, rfl, HS9.out⟩
      case round =>
        obtain ⟨i, Lb1, La1, hj, rfl, hs⟩ := hrel
        have HJ2 := Lib.hid hj
        have hi' : i ≤ m' := by omega
        have hnum := runV_nums Y ts' i
        have hYo : (runV Y ts' i).ops ≤ 80 := by have := HYD.out.2.2.1; omega
        have hYn : (runV Y ts' i).n = n := hnum.1.trans HYD.out.2.1
        have HS10 := Lib.hid hs
        by_cases hlt2 : i < m'
        · obtain ⟨ad, ht⟩ := HR'.out.below hs.bel i hlt2
          obtain rfl := ht.a
          have c0 : wr.cell? (ad.add (i * 3)) = _ := ht.c0
          have c1 := ht.c1
          have c2 := ht.c2
          have HT := Lib.hid ht
          obtain ⟨Z, hZ⟩ : ∃ Z, runV Y ts' i = Z := ⟨_, rfl⟩
          have HZN : Hid (runV Y ts' (i + 1) = vdoX Z (ts' i).a (ts' i).s (ts' i).b i) := by rw [← hZ]; rfl
          rw [hZ] at hYo hYn
          have hsZ : Sep w.heap.size w wr (devOb vb Lb1 Z :: devOb va La1 Z :: devOb v L7 Y :: rest) := by rw [← hZ]; exact hs
          have HSZ := Lib.hid hsZ
          have HTW : Hid (∀ W, Below w.heap.size w W → TurnAt W w.heap.size (some ad) i ad (ts' i)) := fun W hW => by
            obtain ⟨ad2, ht2⟩ := HR'.out.below hW i hlt2
            have := ht2.a
            injection this with this
            subst this
            exact ht2
          have HDA : Hid (Calls Try.prog 21 #[.pointer (some ⟨va, 0, none⟩), turn3V (ts' i).a (ts' i).s (ts' i).b, .int .i64 (n : Int), .int .i64 (i : Int)] wr.drew fun e w' => e = .returned (.int .i64 (vdoE Z (ts' i).a (ts' i).s (ts' i).b i)) ∧ ∃ L', Hid (Sep w.heap.size w w' (devOb va L' (vdoX Z (ts' i).a (ts' i).s (ts' i).b i) :: devOb vb Lb1 Z :: devOb v L7 Y :: rest))) :=
            sep_vdo (hsZ.drew.perm (.swap _ _ _)) (AllCells.cons (cellOb_dev _ _ _) (AllCells.cons (cellOb_dev _ _ _) HCR.out)) (by omega) _ _ _ n i hYn (by omega)
          have HDB : Hid (∀ W La2 Z', Sep w.heap.size w W (devOb va La2 Z' :: devOb vb Lb1 Z :: devOb v L7 Y :: rest) → Calls Try.prog 21 #[.pointer (some ⟨vb, 0, none⟩), turn3V (ts' i).a (ts' i).s (ts' i).b, .int .i64 (n : Int), .int .i64 (i : Int)] W fun e w' => e = .returned (.int .i64 (vdoE Z (ts' i).a (ts' i).s (ts' i).b i)) ∧ ∃ L', Hid (Sep w.heap.size w w' (devOb vb L' (vdoX Z (ts' i).a (ts' i).s (ts' i).b i) :: devOb va La2 Z' :: devOb v L7 Y :: rest))) := fun W La2 Z' hW =>
            sep_vdo (hW.perm (.swap _ _ _)) (AllCells.cons (cellOb_dev _ _ _) (AllCells.cons (cellOb_dev _ _ _) HCR.out)) (by omega) _ _ _ n i hYn (by omega)
          unfold turn3V at HDA HDB
          obtain ⟨E, hE⟩ : ∃ E, vdoE Z (ts' i).a (ts' i).s (ts' i).b i = E := ⟨_, rfl⟩
          obtain ⟨Z2, hZ2⟩ : ∃ Z2, vdoX Z (ts' i).a (ts' i).s (ts' i).b i = Z2 := ⟨_, rfl⟩
          rw [hE, hZ2] at HDA HDB
          rw [hZ2] at HZN
          obtain ⟨dn, hdn⟩ : ∃ dn, Z2.down = dn := ⟨_, rfl⟩
          have HDW : Hid (∀ W v' L', IsDev W v' L' Z2 → Calls Try.prog 14 #[.pointer (some ⟨v', 0, none⟩)] W fun e w' => e = .returned (.bool dn) ∧ W = w') := fun W v' L' hW => by
            rw [← hdn]; exact dev_down hW
          clear hj hs ht hnum hYo hYn hZ hsZ hE hZ2 hdn HS10
          go_wp2_with fail
          go_region_held3 (fun X => X.cell? (ad.add (i * 3)) = some (.int .u8 (n8 (ts' i).a)) ∧ X.cell? ⟨(ad.add (i * 3)).block, (ad.add (i * 3)).off + 1, none⟩ = some (.int .u8 (n8 (ts' i).s)) ∧ X.cell? ⟨(ad.add (i * 3)).block, (ad.add (i * 3)).off + 2, none⟩ = some (.int .u8 (n8 (ts' i).b))) (first | (refine ⟨?_, ?_, ?_⟩ <;> assumption) | go_keep)
            (first
              | (go_at_call 21; with_reducible refine HDA.out.mono ?_; rintro e w10 ⟨rfl, La3, hs10⟩
                 have ht10 := HTW.out w10 hs10.out.bel
                 have e0 : w10.cell? (ad.add (i * 3)) = some (.int .u8 (n8 (ts' i).a)) := ht10.c0
                 have e1 : w10.cell? ⟨(ad.add (i * 3)).block, (ad.add (i * 3)).off + 1, none⟩ = some (.int .u8 (n8 (ts' i).s)) := ht10.c1
                 have e2 : w10.cell? ⟨(ad.add (i * 3)).block, (ad.add (i * 3)).off + 2, none⟩ = some (.int .u8 (n8 (ts' i).b)) := ht10.c2
                 clear ht10)
              | (go_at_call 21; with_reducible refine (HDB.out _ _ _ hs10.out).mono ?_; rintro e w11 ⟨rfl, Lb3, hs11⟩
                 have ht11 := HTW.out w11 hs11.out.bel
                 have f0 : w11.cell? (ad.add (i * 3)) = some (.int .u8 (n8 (ts' i).a)) := ht11.c0
                 have f1 : w11.cell? ⟨(ad.add (i * 3)).block, (ad.add (i * 3)).off + 1, none⟩ = some (.int .u8 (n8 (ts' i).s)) := ht11.c1
                 have f2 : w11.cell? ⟨(ad.add (i * 3)).block, (ad.add (i * 3)).off + 2, none⟩ = some (.int .u8 (n8 (ts' i).b)) := ht11.c2
                 have hda := Lib.hid (HDW.out w11 va La3 (hs11.out.get (.tail _ (.head _))))
                 have hdb := Lib.hid (HDW.out w11 vb Lb3 (hs11.out.get (.head _)))
                 clear ht11)
              | (go_at_call 14; with_reducible refine hda.out.mono ?_; rintro e w' ⟨rfl, rfl⟩)
              | (go_at_call 14; with_reducible refine hdb.out.mono ?_; rintro e w' ⟨rfl, rfl⟩)
              | fail "no arm")
          all_goals
            clear c0 c1 c2 e0 e1 e2 f0 f1 f2 HDA HDB HDW HTW
            go_wp2_with fail
            go_roundg (gk - 1)
            case measure => have := HJ2.out; omega
            case rel => exact ⟨i + 1, Lb3, La3, by have := HJ2.out; omega, by go_num, by rw [HZN.out]; exact hs11.out.drewN 0⟩
        · obtain ⟨Z, hZ⟩ : ∃ Z, runV Y ts' i = Z := ⟨_, rfl⟩
          rw [hZ] at hYn hYo
          have HSZ : Hid (Sep w.heap.size w wr (devOb vb Lb1 Z :: devOb va La1 Z :: devOb v L7 Y :: rest)) := by rw [← hZ]; exact hs
          have HZN := Lib.hid hYn
          clear hj hs hnum hYo hYn hZ HS10
          go_wp2_with fail
          refine (dev_disk (HSZ.out.get (.tail _ (.tail _ (.head _))))).mono ?_
          rintro e w12 ⟨d1, rb1, lay1, rfl, hd, _, hb⟩
          have HS12 := Lib.hid (HSZ.out.below hb)
          have HD := Lib.hid hd
          clear hd hb
          go_wp2_with fail
          refine (sep_contents HS12.out HD.out (by omega) (by rw [HYD.out.2.1]; omega)).mono ?_
          rintro e w13 ⟨u3, v3, rfl, hs⟩
          rw [HYD.out.2.1, HYD.out.1] at hs
          obtain ⟨A3, q3, rfl, hq3, hq3m⟩ := row_form (hs.get (.head _))
          obtain ⟨A4, q4, rfl, hq4, hq4m⟩ := row_form (hs.get (.tail _ (.head _)))
          have HS13 := Lib.hid hs
          unfold maxLen at hq3m hq4m
          clear hs HD
          go_wp2_with fail
          refine (dev_disk (HS13.out.get (.tail _ (.tail _ (.tail _ (.head _)))))).mono ?_
          rintro e w14 ⟨d1, rb1, lay1, rfl, hd, _, hb⟩
          have HS14 := Lib.hid (HS13.out.below hb)
          have HD := Lib.hid hd
          clear hd hb
          go_wp2_with fail
          refine (sep_contents HS14.out HD.out (by omega) (by rw [HZN.out]; omega)).mono ?_
          rintro e w15 ⟨u5, v5, rfl, hs⟩
          rw [HZN.out] at hs
          obtain ⟨A5, q5, rfl, hq5, hq5m⟩ := row_form (hs.get (.head _))
          obtain ⟨A6, q6, rfl, hq6, hq6m⟩ := row_form (hs.get (.tail _ (.head _)))
          have HS15 := Lib.hid hs
          unfold maxLen at hq5m hq6m
          clear hs HD
          go_wp2_with fail
          refine (dev_disk (HS15.out.get (.tail _ (.tail _ (.tail _ (.tail _ (.head _))))))).mono ?_
          rintro e w16 ⟨d1, rb1, lay1, rfl, hd, _, hb⟩
          have HS16 := Lib.hid (HS15.out.below hb)
          have HD := Lib.hid hd
          clear hd hb
          go_wp2_with fail
          refine (sep_contents HS16.out HD.out (by omega) (by rw [HZN.out]; omega)).mono ?_
          rintro e w17 ⟨u7, v7, rfl, hs⟩
          rw [HZN.out] at hs
          obtain ⟨A7, q7, rfl, hq7, hq7m⟩ := row_form (hs.get (.head _))
          obtain ⟨A8, q8, rfl, hq8, hq8m⟩ := row_form (hs.get (.tail _ (.head _)))
          obtain ⟨os9, hos9⟩ : ∃ os9, os9 = rowOb 9 1 (.slice A7 (n + 2) q7) (n + 2) (strs Z.D (n + 2)) :: rowOb 3 1 (.slice A8 (n + 2) q8) (n + 2) (ints (durs Z.D (n + 2))) :: rowOb 9 1 (.slice A5 (n + 2) q5) (n + 2) (strs Z.D (n + 2)) :: rowOb 3 1 (.slice A6 (n + 2) q6) (n + 2) (ints (durs Z.D (n + 2))) :: rowOb 9 1 (.slice A3 (n + 2) q3) (n + 2) (strs X.D (n + 2)) :: rowOb 3 1 (.slice A4 (n + 2) q4) (n + 2) (ints (durs X.D (n + 2))) :: devOb vb Lb1 Z :: devOb va La1 Z :: devOb v L7 Y :: rest := ⟨_, rfl⟩
          have HS17 : Hid (Sep w.heap.size w w17 os9) := by rw [hos9]; exact hs
          have HO9 : Hid (∀ W, Sep w.heap.size w W os9 → IsDev W v L7 Y ∧ ∀ i, i < n + 2 → ∃ a1 a2 a3 a4 a5 a7, A1 = some a1 ∧ A2 = some a2 ∧ A3 = some a3 ∧ A4 = some a4 ∧ A5 = some a5 ∧ A7 = some a7 ∧ ∃ s1 s2 d, W.cell? (a1.add i) = some (.string s1) ∧ W.cell? (a3.add i) = some (.string s1) ∧ W.cell? (a2.add i) = some (.int .i64 d) ∧ W.cell? (a4.add i) = some (.int .i64 d) ∧ W.cell? (a5.add i) = some (.string s2) ∧ W.cell? (a7.add i) = some (.string s2)) := fun W hW => by
            rw [hos9, HREST.out] at hW
            refine ⟨hW.get (.tail _ (.tail _ (.tail _ (.tail _ (.tail _ (.tail _ (.tail _ (.tail _ (.head _))))))))), fun i hi => ?_⟩
            obtain ⟨a7, e7, z7⟩ := str_cell (hW.get (.head _)) i hi
            obtain ⟨a5, e5, z5⟩ := str_cell (hW.get (.tail _ (.tail _ (.head _)))) i hi
            obtain ⟨a3, e3, z3⟩ := str_cell (hW.get (.tail _ (.tail _ (.tail _ (.tail _ (.head _)))))) i hi
            obtain ⟨a4, e4, z4⟩ := dur_cell (hW.get (.tail _ (.tail _ (.tail _ (.tail _ (.tail _ (.head _))))))) i hi
            obtain ⟨a1, e1, z1⟩ := str_cell (hW.get (.tail _ (.tail _ (.tail _ (.tail _ (.tail _ (.tail _ (.tail _ (.tail _ (.tail _ (.head _))))))))))) i hi
            obtain ⟨a2, e2, z2⟩ := dur_cell (hW.get (.tail _ (.tail _ (.tail _ (.tail _ (.tail _ (.tail _ (.tail _ (.tail _ (.tail _ (.tail _ (.head _)))))))))))) i hi
            exact ⟨a1, a2, a3, a4, a5, a7, e1, e2, e3, e4, e5, e7, _, _, _, z1, z3, z2, z4, z5, z7⟩
          unfold maxLen at hq7m hq8m
          clear hs HD hos9 HSZ HS12 HS13 HS14 HS15 HS16
          go_wp2_with fail
          go_loopg [25] (n + 2) (fun q v25 wr => ∃ (k : Nat), k + q = n + 2 ∧ v25 = .int .i64 k ∧ Sep w.heap.size w wr os9)
          case atStart => exact ⟨0, by omega, rfl, HS17.out⟩
          case round =>
            obtain ⟨k, hj, rfl, hs⟩ := hrel
            have HJ3 := Lib.hid hj
            have HS18 := Lib.hid hs
            have hk3 : k ≤ n + 2 := by omega
            clear hj hs
            by_cases hlt3 : k < n + 2
            · obtain ⟨a1, a2, a3, a4, a5, a7, rfl, rfl, rfl, rfl, rfl, rfl, s1, s2, d, z1, z2, z3, z4, z5, z6⟩ := (HO9.out wr HS18.out).2 k hlt3
              go_wp2_with fail
              go_quiet (fail)
              have HS19 := Lib.hid (HS18.out.drewN nq)
              generalize wr.drewN nq = wz at HS19 ⊢
              clear z1 z2 z3 z4 z5 z6
              go_wp2_with fail
              go_roundg (gk - 1)
              case measure => have := HJ3.out; omega
              case rel => exact ⟨k + 1, by have := HJ3.out; omega, by go_num, HS19.out⟩
            · have e8 : k = n + 2 := by omega
              subst e8
              go_wp2_with fail
              refine (dev_down (HO9.out wr HS18.out).1).mono ?_
              rintro e w' ⟨rfl, rfl⟩
              rw [HYD.out.2.2.2]
              go_wp2_with fail
              refine (works_any _).mono ?_
              rintro e w22 ⟨rfl, hb⟩
              have HB : Hid (Below w.heap.size w w22) := HS18.out.bel.trans (hb.mono HS18.out.big)
              clear hb
              go_wp2_with fail
              go_ret
              exact ⟨rfl, HB.out⟩
theorem DeviceCopies_walk (v0 v1 v2 v3 v4 : Value) (w : World) (a0 : ArgIn Try.prog w 5 v0) (a1 : ArgIn Try.prog w 5 v1) (a2 : ArgIn Try.prog w 39 v2) (a3 : ArgIn Try.prog w 39 v3) (a4 : ArgIn Try.prog w 5 v4) :
    Calls Try.prog 8 #[v0, v1, v2, v3, v4] w fun e w' => e = .returned (.bool true) ∧ Below w.heap.size w w' := by
  obtain ⟨x0, rfl, h0⟩ := a0.int (k := .u8) Try.underlying5
  obtain ⟨x1, rfl, h1⟩ := a1.int (k := .u8) Try.underlying5
  obtain ⟨A, n, c, ts, rfl, hn, hc, ht⟩ := turns_arg a2
  obtain ⟨A', n', c', ts', rfl, hn', hc', ht'⟩ := turns_arg a3
  obtain ⟨x4, rfl, h4⟩ := a4.int (k := .u8) Try.underlying5
  obtain ⟨b0, rfl⟩ := u8_of_wf h0
  obtain ⟨b1, rfl⟩ := u8_of_wf h1
  obtain ⟨b4, rfl⟩ := u8_of_wf h4
  exact DeviceCopies_w b0 b1 A n c ts A' n' c' ts' b4 w ht hn hc ht' hn' hc'
end Go.Proofs.Yteglaedkhopbgaa

/-
  The walk of the law SlotsetPlays: it returns true and writes nothing that was there. Condition: the library's table holds what its text lists.
-/
import Derived.Test.YthmkaefpgcjlnaaDoorSetUni
import Derived.Deep.DeepCutAuto
import Derived.Deep.CutBlock
import Derived.Deep.RegionHeld3
namespace Go.Proofs.YthmkaefpgcjlnaaDoor
open Go.RowKit Go.Shelf
set_option linter.unusedVariables false
structure SStep (w : World) (B : Nat) (A : Option Addr) (i : Nat) (ad : Addr) (d n : Int) (LA : Option Addr) (ln lc : Nat) (zs : List Int) : Prop where
  a : A = some ad
  lt : ad.block < B
  c0 : w.cell? (ad.add (i * 3)) = some (.int .i64 d)
  c1 : w.cell? ⟨(ad.add (i * 3)).block, (ad.add (i * 3)).off + 1, none⟩ = some (.int .i64 n)
  c2 : w.cell? ⟨(ad.add (i * 3)).block, (ad.add (i * 3)).off + 2, none⟩ = some (.slice LA ln lc)
  ll : ln = zs.length
  lm : ln ≤ maxLen
  hv : Reads w w.heap.size 1 LA ln (ints zs)
theorem SStep.below {w w' : World} {A : Option Addr} {i : Nat} {ad : Addr} {d n : Int} {LA : Option Addr} {ln lc : Nat} {zs : List Int} (h : SStep w w.heap.size A i ad d n LA ln lc zs) (hb : Below w.heap.size w w') : SStep w' w.heap.size A i ad d n LA ln lc zs :=
  ⟨h.a, h.lt, by rw [hb.cell (by rw [block_of_add]; exact h.lt)]; exact h.c0, by rw [hb.cell (by show (ad.add (i * 3)).block < _; rw [block_of_add]; exact h.lt)]; exact h.c1, by rw [hb.cell (by show (ad.add (i * 3)).block < _; rw [block_of_add]; exact h.lt)]; exact h.c2, h.ll, h.lm, (h.hv.below hb).more hb.size⟩
def SSteps (w : World) (A : Option Addr) (n : Nat) : Prop := ∀ i, i < n → ∃ ad d k LA ln lc zs, SStep w w.heap.size A i ad d k LA ln lc zs
theorem ssteps_arg {w : World} {v : Value} (h : ArgIn Tryd.prog w 51 v) : ∃ A n c, v = .slice A n c ∧ n ≤ maxLen ∧ SSteps w A n := by
  obtain ⟨A, n, c, xs, rfl, h1, h2, h3, h4⟩ := h.slice (e := 53) rfl (by decide +kernel)
  refine ⟨A, n, c, rfl, by omega, fun i hi => ?_⟩
  have hC : Tryd.prog.cellsOf 53 = 3 := by kernel_rfl
  have hC1 : Tryd.prog.cellsOf 3 = 1 := by kernel_rfl
  have hC2 : Tryd.prog.cellsOf 29 = 1 := by kernel_rfl
  rw [hC] at h3 h4
  obtain ⟨hl, hf⟩ := Rd.struct Tryd.underlying53 (h4 i hi)
  rw [hC] at hl
  obtain ⟨cs, hcs⟩ : ∃ cs, cs = (xs.drop (i * 3)).take 3 := ⟨_, rfl⟩
  rw [← hcs] at hl hf
  obtain ⟨x0, x1, x2, hx⟩ : ∃ a b c, cs = [a, b, c] := by
    match cs, hl with
    | [a, b, c], _ => exact ⟨a, b, c, rfl⟩
  rw [hx] at hf
  have g0 : Rd Tryd.prog w 3 [x0] := by simpa [hC1] using hf 0 _ rfl
  have g1 : Rd Tryd.prog w 3 [x1] := by simpa [hC1] using hf 1 _ rfl
  have g2 : Rd Tryd.prog w 29 [x2] := by simpa [hC2] using hf 2 _ rfl
  obtain ⟨d, e0, w0⟩ := Rd.int (k := .i64) Tryd.underlying3 g0
  obtain ⟨m, e1, w1⟩ := Rd.int (k := .i64) Tryd.underlying3 g1
  obtain ⟨A1, n1, c1, ys, e2, y1, y2, y3, y4⟩ := g2.slice (e := 3) Tryd.underlying29 (by rw [hC1]; omega)
  rw [hC1] at y3 y4
  obtain ⟨zs, rfl⟩ : ∃ zs, ys = ints zs := by
    have hl : ys.length = n1 := by have := y3.1; omega
    have : ∀ us : List Value, (∀ k, k < us.length → ∃ z : Int, us[k]? = some (.int .i64 z)) → ∃ zs, us = ints zs := by
      intro us
      induction us with
      | nil => intro _; exact ⟨[], rfl⟩
      | cons u us ih =>
        intro hu
        obtain ⟨z, hz⟩ := hu 0 (by simp)
        obtain ⟨zs, rfl⟩ := ih (fun k hk => by simpa using hu (k + 1) (by simpa using hk))
        have : u = .int .i64 z := by simpa using hz
        subst this
        exact ⟨z :: zs, rfl⟩
    refine this ys (fun k hk => ?_)
    have h := y4 k (by omega)
    rw [Nat.mul_one, List.drop_eq_getElem_cons hk] at h
    obtain ⟨z, e, _⟩ := Rd.int (k := .i64) Tryd.underlying3 h
    refine ⟨z, ?_⟩
    have e2 : [ys[k]] = [Value.int .i64 z] := e
    have e' : ys[k] = .int .i64 z := by injection e2
    rw [List.getElem?_eq_getElem hk, e']
  obtain ⟨ad, e, hbk, hc⟩ := h3.2 (by omega)
  have e0' : x0 = .int .i64 d := by simpa using e0
  have e1' : x1 = .int .i64 m := by simpa using e1
  have e2' : x2 = .slice A1 n1 c1 := by simpa using e2
  have at_ : ∀ q v, cs[q]? = some v → q < 3 → w.cell? ((ad.add (i * 3)).add q) = some v := by
    intro q v hq hq3
    rw [hcs, List.getElem?_take, if_pos hq3, List.getElem?_drop] at hq
    rw [add_of_add]
    exact hc _ _ hq
  rw [hx] at at_
  refine ⟨ad, d, m, A1, n1, c1, zs, e, hbk, ?_, ?_, ?_, by have := y3.1; rw [ints_length] at this; omega, by omega, y3⟩
  · have := at_ 0 _ rfl (by omega); rw [e0', add_of_add, Nat.add_zero] at this; exact this
  · have := at_ 1 _ rfl (by omega); rw [e1'] at this; exact this
  · have := at_ 2 _ rfl (by omega); rw [e2'] at this; exact this
set_option maxHeartbeats 8000000 in
set_option maxRecDepth 100000 in
theorem SlotsetPlays_w (size other fr : Int) (hfr : -9223372036854775808 ≤ fr ∧ fr ≤ 9223372036854775807) (A : Option Addr) (n c : Nat) (w : World) (ht : TabIn w) (hst : SSteps w A n) (hm : n ≤ maxLen) :
    Calls Tryd.prog 9 #[.int .i64 size, .int .i64 other, .slice A n c, .int .i64 fr] w fun e w' => e = .returned (.bool true) ∧ Below w.heap.size w w' := by
  have HT := Lib.hid ht
  have hp := ht.pos
  have HS := Lib.hid hst
  have HFR := Lib.hid hfr
  unfold maxLen at hm
  clear ht hst hfr
  by_cases h1 : 100 < n
  · go_enter Tryd.func9, Tryd.ntmps9
    go_wp2_with fail
    refine (works_any _ HT.out).mono ?_
    rintro e w12 ⟨rfl, hb⟩
    go_wp2
    go_ret
    exact ⟨rfl, hb⟩
  · go_enter Tryd.func9, Tryd.ntmps9
    go_wp2_with fail
    go_loopg [9] n (fun q v9 wr => ∃ j : Nat, j + q = n ∧ v9 = .int .i64 j ∧ (∀ i, i < j → ∀ ad d k LA ln lc zs, SStep w w.heap.size A i ad d k LA ln lc zs → ln ≤ 40) ∧ w = wr)
    case atStart => exact ⟨0, by omega, rfl, fun i hi => by omega, rfl⟩
    case round =>
      obtain ⟨j, hj, rfl, hall, rfl⟩ := hrel
      have HJ := Lib.hid hj
      have HALL := Lib.hid hall
      clear hall
      by_cases hlt : j < n
      · obtain ⟨ad, d, k, LA, ln, lc, zs, hs⟩ := HS.out j hlt
        have HSJ := Lib.hid hs
        obtain ⟨rfl, hlt2, c0, c1, c2, hll, hlm, hrd⟩ := hs
        unfold maxLen at hlm
        clear hj hll hrd c0 c1
        by_cases hl : 40 < ln
        · go_wp2_with fail
          refine (works_any _ HT.out).mono ?_
          rintro e w12 ⟨rfl, hb⟩
          go_wp2
          go_ret
          exact ⟨rfl, hb⟩
        · go_wp2_with fail
          go_roundg (gk - 1)
          case measure => have := HJ.out; omega
          case rel =>
            refine ⟨j + 1, by have := HJ.out; omega, by go_num, fun i hi => ?_, rfl⟩
            by_cases e : i = j
            · subst e
              intro ad' d' k' LA' ln' lc' zs' h'
              have ea : ad' = ad := by have := h'.a; injection this with this; exact this.symm
              subst ea
              have := h'.c2
              rw [HSJ.out.c2] at this
              injection this with this
              injection this with e1 e2 e3
              omega
            · exact HALL.out i (by omega)
      · obtain rfl : n = j := by omega
        clear hj
        go_wp2_with fail
        refine (p_new size w).mono ?_
        rintro e w1 ⟨p, rfl, hpp, hF, hb, hpn⟩
        have H1 : Hid (Sep w.heap.size w w1 [pOb p (newO size)]) := (Sep.start w).add (a := pOb p (newO size)) hb hpp hF
        have HPN := Lib.hid hpn
        clear hpp hF hb hpn
        go_wp2_with fail
        refine (q_new size w1).mono ?_
        rintro e w2 ⟨pr, br, rfl, hpp, hF, hb, hpn⟩
        have H2 : Hid (Sep w.heap.size w w2 [pOb p (newO size), qOb pr br (newO size)]) := (H1.out.add (a := qOb pr br (newO size)) hb hpp hF).perm (List.Perm.swap _ _ _)
        have HQN := Lib.hid hpn
        clear hpp hF hb hpn
        generalize newE size = ee
        generalize newO size = S at H2 HPN HQN
        go_upto_region 10 with fail
        go_cut [10, 12, 66] (fun s10 s12 s66 wx => s10 = .pointer p ∧ s12 = .pointer pr ∧ s66 = .bool false ∧ w2 = wx)
        case first =>
          cases p with
          | none =>
            obtain rfl : pr = none := HQN.out.2 (HPN.out.1 rfl)
            go_wp2_with fail
            go_meet
            exact ⟨rfl, rfl, rfl, rfl⟩
          | some a =>
            cases pr with
            | none => exact absurd (HPN.out.2 (HQN.out.1 rfl)) (by simp)
            | some a' =>
              go_wp2_with fail
              go_meet
              exact ⟨rfl, rfl, rfl, rfl⟩
        case rest =>
          obtain ⟨rfl, rfl, rfl, rfl⟩ := hcut
          clear HPN HQN
          go_wp2_with fail
          have H := H2
          have HN := Lib.hid (show ∀ i, i < n → ∀ ad d k LA ln lc zs, SStep w w.heap.size A i ad d k LA ln lc zs → ln ≤ 40 from HALL.out)
          clear H2
          go_loopg [10, 12, 14] n (fun q v10 v12 v14 wr => ∃ (j : Nat) (p pr : Option Addr) (br : Nat) (S : SetD), j + q = n ∧ v14 = .int .i64 j ∧ v10 = .pointer p ∧ v12 = .pointer pr ∧ Sep w.heap.size w wr [pOb p S, qOb pr br S])
          case atStart => exact ⟨0, p, pr, br, S, by omega, rfl, rfl, rfl, H.out⟩
          case round =>
            clear H HJ
            obtain ⟨j, p, pr, br, S, hj, rfl, rfl, rfl, hs⟩ := hrel
            have HJ := Lib.hid hj
            have H := Lib.hid hs
            by_cases hlt : j < n
            · obtain ⟨ad, d, k, LA, ln, lc, zs, hst⟩ := HS.out j hlt
              have hln := HN.out j hlt _ _ _ _ _ _ _ hst
              have hst2 := hst.below hs.bel
              have HRV := Lib.hid hst.hv
              have HLL := Lib.hid hst.ll
              obtain ⟨rfl, hlt2, c0, c1, c2, hx1, hx2, hx3⟩ := hst2
              clear hj hs hst hx1 hx2 hx3
              go_wp2_with fail
              obtain ⟨bx, hbx⟩ : ∃ bx, wr.heap.size = bx := ⟨_, rfl⟩
              have HX : Hid (Sep w.heap.size w (wr.alloc (.cells #[.int .i64 d, .int .i64 k, .slice LA ln lc] 53)) [blkOb bx 53 #[.int .i64 d, .int .i64 k, .slice LA ln lc], pOb p S, qOb pr br S]) := H.out.newBlk bx _ _ hbx.symm
              rw [hbx]
              refine (p_new other _).mono ?_
              rintro e w3 ⟨pt, rfl, hpp, hF, hb, hx1⟩
              have H3 : Hid (Sep w.heap.size w w3 [pOb pt (newO other), blkOb bx 53 #[.int .i64 d, .int .i64 k, .slice LA ln lc], pOb p S, qOb pr br S]) := HX.out.add (a := pOb pt (newO other)) hb hpp hF
              clear hpp hF hb hx1 hbx
              go_wp2_with fail
              refine (q_new other w3).mono ?_
              rintro e w4 ⟨pu, bu, rfl, hpp, hF, hb, hx1⟩
              have H4 : Hid (Sep w.heap.size w w4 [pOb pt (newO other), qOb pu bu (newO other), blkOb bx 53 #[.int .i64 d, .int .i64 k, .slice LA ln lc], pOb p S, qOb pr br S]) := (H3.out.add (a := qOb pu bu (newO other)) hb hpp hF).perm (List.Perm.swap _ _ _)
              clear hpp hF hb hx1 HX H3 c0 c1 c2
              generalize newE other = ee2
              generalize newO other = T0 at H4
              have HCEL : Hid (∀ X os, Sep w.heap.size w X os → blkOb bx 53 #[.int .i64 d, .int .i64 k, .slice LA ln lc] ∈ os → X.cell? ⟨bx, 0, none⟩ = some (.int .i64 d) ∧ X.cell? ⟨bx, 1, none⟩ = some (.int .i64 k) ∧ X.cell? ⟨bx, 2, none⟩ = some (.slice LA ln lc)) := fun X os h hm => by
                have hB : Blk X bx 53 #[.int .i64 d, .int .i64 k, .slice LA ln lc] := h.get hm
                exact ⟨hB.cell 0, hB.cell 1, hB.cell 2⟩
              have HLST : Hid (∀ X os, Sep w.heap.size w X os → Reads X X.heap.size 1 LA ln (ints zs)) := fun X os h => (HRV.out.below h.bel).more h.bel.size
              go_wp2_with fail
              go_loopg [20] ln (fun q v20 wx => ∃ (i : Nat) (T : SetD), i + q = ln ∧ v20 = .int .i64 i ∧ Sep w.heap.size w wx [pOb pt T, qOb pu bu T, blkOb bx 53 #[.int .i64 d, .int .i64 k, .slice LA ln lc], pOb p S, qOb pr br S])
              case atStart => exact ⟨0, T0, by omega, rfl, H4.out⟩
              case round =>
                clear H4
                obtain ⟨i, T, hi, rfl, hs⟩ := hrel
                have HI := Lib.hid hi
                have H5 := Lib.hid hs
                obtain ⟨q0, q1, q2⟩ := HCEL.out wr _ hs (.tail _ (.tail _ (.head _)))
                by_cases hil : i < ln
                · obtain ⟨lad, u, rfl, hlab, hx, hz⟩ := (HLST.out wr _ hs).at_ hil
                  have hiz : i < zs.length := by rw [← HLL.out]; exact hil
                  simp only [ints, List.getElem?_map, List.getElem?_eq_getElem hiz, Option.map_some, Option.some.injEq] at hx
                  subst hx
                  obtain ⟨z, hzz⟩ : ∃ z, zs[i] = z := ⟨_, rfl⟩
                  have HZ : Hid (∀ X os, Sep w.heap.size w X os → X.cell? (lad.add i) = some (.int .i64 z)) := fun X os h => by
                    obtain ⟨lad2, u2, e2, _, hx2, hc2⟩ := (HLST.out X os h).at_ hil
                    injection e2 with e2
                    subst e2
                    simp only [ints, List.getElem?_map, List.getElem?_eq_getElem hiz, Option.map_some, Option.some.injEq] at hx2
                    rw [← hzz, hx2]; exact hc2
                  rw [hzz] at hz
                  obtain ⟨STA, hA⟩ : ∃ STA : World → Prop, STA = fun X => Sep w.heap.size w X [pOb pt T, qOb pu bu T, blkOb bx 53 #[.int .i64 d, .int .i64 k, .slice (some lad) ln lc], pOb p S, qOb pr br S] := ⟨_, rfl⟩
                  obtain ⟨STB, hB⟩ : ∃ STB : World → Prop, STB = fun X => Sep w.heap.size w X [pOb pt (setO T z true), qOb pu bu T, blkOb bx 53 #[.int .i64 d, .int .i64 k, .slice (some lad) ln lc], pOb p S, qOb pr br S] := ⟨_, rfl⟩
                  obtain ⟨STC, hC⟩ : ∃ STC : World → Prop, STC = fun X => Sep w.heap.size w X [pOb pt (setO T z true), qOb pu bu (setO T z true), blkOb bx 53 #[.int .i64 d, .int .i64 k, .slice (some lad) ln lc], pOb p S, qOb pr br S] := ⟨_, rfl⟩
                  have HC := Lib.hid hC
                  have CA : Hid (∀ X, STA X → Calls Tryd.prog 25 #[.pointer pt, .int .i64 z] X fun e X' => e = .returned (.int .i64 (errO T z)) ∧ (X'.cell? ⟨bx, 2, none⟩ = some (.slice (some lad) ln lc) ∧ X'.cell? (lad.add i) = some (.int .i64 z)) ∧ STB X') := fun X h => by
                    rw [hA] at h
                    have h : Sep w.heap.size w X [pOb pt T, qOb pu bu T, blkOb bx 53 #[.int .i64 d, .int .i64 k, .slice (some lad) ln lc], pOb p S, qOb pr br S] := h
                    refine (p_add (h.get (.head _)) z).mono ?_
                    rintro e X' ⟨h1, h2, h3⟩
                    have h4 : Sep w.heap.size w X' [pOb pt (setO T z true), qOb pu bu T, blkOb bx 53 #[.int .i64 d, .int .i64 k, .slice (some lad) ln lc], pOb p S, qOb pr br S] := h.step (a' := pOb pt (setO T z true)) h3 h2 (fun _ h => .inl h)
                    exact ⟨h1, ⟨(HCEL.out X' _ h4 (.tail _ (.tail _ (.head _)))).2.2, HZ.out X' _ h4⟩, by rw [hB]; exact h4⟩
                  have CB : Hid (∀ X, STB X → Calls Tryd.prog 29 #[.pointer pu, .int .i64 z] X fun e X' => e = .returned (.int .i64 (errO T z)) ∧ (X'.cell? ⟨bx, 2, none⟩ = some (.slice (some lad) ln lc) ∧ X'.cell? (lad.add i) = some (.int .i64 z)) ∧ STC X') := fun X h => by
                    rw [hB] at h
                    have h : Sep w.heap.size w X [pOb pt (setO T z true), qOb pu bu T, blkOb bx 53 #[.int .i64 d, .int .i64 k, .slice (some lad) ln lc], pOb p S, qOb pr br S] := h
                    refine (q_add (h.get (.tail _ (.head _))) z).mono ?_
                    rintro e X' ⟨h1, h2, h3⟩
                    have h4 : Sep w.heap.size w X' [pOb pt (setO T z true), qOb pu bu (setO T z true), blkOb bx 53 #[.int .i64 d, .int .i64 k, .slice (some lad) ln lc], pOb p S, qOb pr br S] := h.step1 (a' := qOb pu bu (setO T z true)) h3 h2 (fun _ h => .inl h)
                    exact ⟨h1, ⟨(HCEL.out X' _ h4 (.tail _ (.tail _ (.head _)))).2.2, HZ.out X' _ h4⟩, by rw [hC]; exact h4⟩
                  have sta0 : STA wr.drew := by rw [hA]; exact H5.out.drew
                  clear hi hs hA hB hC hzz hiz q0 q1
                  go_wp2_with fail
                  go_region_held3 (fun X' => X'.cell? ⟨bx, 2, none⟩ = some (.slice (some lad) ln lc) ∧ X'.cell? (lad.add i) = some (.int .i64 z)) ((repeat' apply And.intro) <;> first | assumption | go_keep)
                    (first
                      | (go_at_call 25; refine (CA.out _ (by assumption)).mono ?_; rintro e x4 ⟨rfl, ⟨k1, k2⟩, stb⟩)
                      | (go_at_call 29; refine (CB.out _ (by assumption)).mono ?_; rintro e x5 ⟨rfl, ⟨k3, k4⟩, stc⟩))
                  all_goals
                    go_wp2_with fail
                    go_roundg (gk - 1)
                    case measure => have := HI.out; omega
                    case rel => exact ⟨i + 1, setO T z true, by have := HI.out; omega, by go_num, by have h := (by assumption : STC _); rw [HC.out] at h; exact h⟩
                · clear hi hs
                  go_upto_block 6 with fail
                  go_cut [10, 12] (fun s10 s12 wy => ∃ (p' pr' : Option Addr) (br' : Nat) (S' : SetD), s10 = .pointer p' ∧ s12 = .pointer pr' ∧ Sep w.heap.size w wy [pOb p' S', qOb pr' br' S', pOb pt T, qOb pu bu T, blkOb bx 53 #[.int .i64 d, .int .i64 k, .slice LA ln lc]])
                  case first =>
                    as_aux_lemma =>
                      clear HLST HRV
                      have HX : Hid (Sep w.heap.size w wr [pOb p S, qOb pr br S, pOb pt T, qOb pu bu T, blkOb bx 53 #[.int .i64 d, .int .i64 k, .slice LA ln lc]]) := H5.out.perm (List.perm_append_comm (l₁ := [pOb pt T, qOb pu bu T, blkOb bx 53 #[.int .i64 d, .int .i64 k, .slice LA ln lc]]) (l₂ := [pOb p S, qOb pr br S]))
                      clear H5
                      by_cases d0 : d = 0
                      · as_aux_lemma =>
                          have e0 : (d == 0) = true := by simpa using d0
                          clear d0 q0 q1 q2
                          obtain ⟨q0, q1, q2⟩ := HCEL.out wr _ HX.out (.tail _ (.tail _ (.tail _ (.tail _ (.head _)))))
                          obtain ⟨STA, hA⟩ : ∃ STA : World → Prop, STA = fun X => Sep w.heap.size w X [pOb p S, qOb pr br S, pOb pt T, qOb pu bu T, blkOb bx 53 #[.int .i64 d, .int .i64 k, .slice LA ln lc]] := ⟨_, rfl⟩
                          obtain ⟨STB, hB⟩ : ∃ STB : World → Prop, STB = fun X => Sep w.heap.size w X [pOb p (setO S k true), qOb pr br S, pOb pt T, qOb pu bu T, blkOb bx 53 #[.int .i64 d, .int .i64 k, .slice LA ln lc]] := ⟨_, rfl⟩
                          obtain ⟨STC, hC⟩ : ∃ STC : World → Prop, STC = fun X => Sep w.heap.size w X [pOb p (setO S k true), qOb pr br (setO S k true), pOb pt T, qOb pu bu T, blkOb bx 53 #[.int .i64 d, .int .i64 k, .slice LA ln lc]] := ⟨_, rfl⟩
                          have HC := Lib.hid hC
                          have CA : Hid (∀ X, STA X → Calls Tryd.prog 25 #[.pointer p, .int .i64 k] X fun e X' => e = .returned (.int .i64 (errO S k)) ∧ X'.cell? ⟨bx, 1, none⟩ = some (.int .i64 k) ∧ STB X') := fun X h => by
                            rw [hA] at h
                            have h : Sep w.heap.size w X [pOb p S, qOb pr br S, pOb pt T, qOb pu bu T, blkOb bx 53 #[.int .i64 d, .int .i64 k, .slice LA ln lc]] := h
                            refine (p_add (h.get (.head _)) k).mono ?_
                            rintro e X' ⟨h1, h2, h3⟩
                            have h4 : Sep w.heap.size w X' [pOb p (setO S k true), qOb pr br S, pOb pt T, qOb pu bu T, blkOb bx 53 #[.int .i64 d, .int .i64 k, .slice LA ln lc]] := h.step (a' := pOb p (setO S k true)) h3 h2 (fun _ h => .inl h)
                            exact ⟨h1, (HCEL.out X' _ h4 (.tail _ (.tail _ (.tail _ (.tail _ (.head _)))))).2.1, by rw [hB]; exact h4⟩
                          have CB : Hid (∀ X, STB X → Calls Tryd.prog 29 #[.pointer pr, .int .i64 k] X fun e X' => e = .returned (.int .i64 (errO S k)) ∧ X'.cell? ⟨bx, 1, none⟩ = some (.int .i64 k) ∧ STC X') := fun X h => by
                            rw [hB] at h
                            have h : Sep w.heap.size w X [pOb p (setO S k true), qOb pr br S, pOb pt T, qOb pu bu T, blkOb bx 53 #[.int .i64 d, .int .i64 k, .slice LA ln lc]] := h
                            refine (q_add (h.get (.tail _ (.head _))) k).mono ?_
                            rintro e X' ⟨h1, h2, h3⟩
                            have h4 : Sep w.heap.size w X' [pOb p (setO S k true), qOb pr br (setO S k true), pOb pt T, qOb pu bu T, blkOb bx 53 #[.int .i64 d, .int .i64 k, .slice LA ln lc]] := h.step1 (a' := qOb pr br (setO S k true)) h3 h2 (fun _ h => .inl h)
                            exact ⟨h1, (HCEL.out X' _ h4 (.tail _ (.tail _ (.tail _ (.tail _ (.head _)))))).2.1, by rw [hC]; exact h4⟩
                          have sta0 : STA wr.drew := by rw [hA]; exact HX.out.drew
                          clear hA hB hC
                          go_wp2_with fail
                          go_region_held3 (fun X' => X'.cell? ⟨bx, 1, none⟩ = some (.int .i64 k)) (first | assumption | go_keep)
                            (first
                              | (go_at_call 25; refine (CA.out _ (by assumption)).mono ?_; rintro e x4 ⟨rfl, k1, stb⟩)
                              | (go_at_call 29; refine (CB.out _ (by assumption)).mono ?_; rintro e x5 ⟨rfl, k2, stc⟩))
                          all_goals
                            go_wp2_with fail
                            go_meet
                            exact ⟨p, pr, br, _, rfl, rfl, by have h := (by assumption : STC _); rw [HC.out] at h; exact h⟩
                      by_cases d1 : d = 1
                      · as_aux_lemma =>
                          have e0 : (d == 0) = false := by simpa using d0
                          have e1 : (d == 1) = true := by simpa using d1
                          clear d0 d1 q0 q1 q2
                          obtain ⟨q0, q1, q2⟩ := HCEL.out wr _ HX.out (.tail _ (.tail _ (.tail _ (.tail _ (.head _)))))
                          obtain ⟨STA, hA⟩ : ∃ STA : World → Prop, STA = fun X => Sep w.heap.size w X [pOb p S, qOb pr br S, pOb pt T, qOb pu bu T, blkOb bx 53 #[.int .i64 d, .int .i64 k, .slice LA ln lc]] := ⟨_, rfl⟩
                          obtain ⟨STB, hB⟩ : ∃ STB : World → Prop, STB = fun X => Sep w.heap.size w X [pOb p (setO S k false), qOb pr br S, pOb pt T, qOb pu bu T, blkOb bx 53 #[.int .i64 d, .int .i64 k, .slice LA ln lc]] := ⟨_, rfl⟩
                          obtain ⟨STC, hC⟩ : ∃ STC : World → Prop, STC = fun X => Sep w.heap.size w X [pOb p (setO S k false), qOb pr br (setO S k false), pOb pt T, qOb pu bu T, blkOb bx 53 #[.int .i64 d, .int .i64 k, .slice LA ln lc]] := ⟨_, rfl⟩
                          have HC := Lib.hid hC
                          have CA : Hid (∀ X, STA X → Calls Tryd.prog 26 #[.pointer p, .int .i64 k] X fun e X' => e = .returned (.int .i64 (errO S k)) ∧ X'.cell? ⟨bx, 1, none⟩ = some (.int .i64 k) ∧ STB X') := fun X h => by
                            rw [hA] at h
                            have h : Sep w.heap.size w X [pOb p S, qOb pr br S, pOb pt T, qOb pu bu T, blkOb bx 53 #[.int .i64 d, .int .i64 k, .slice LA ln lc]] := h
                            refine (p_remove (h.get (.head _)) k).mono ?_
                            rintro e X' ⟨h1, h2, h3⟩
                            have h4 : Sep w.heap.size w X' [pOb p (setO S k false), qOb pr br S, pOb pt T, qOb pu bu T, blkOb bx 53 #[.int .i64 d, .int .i64 k, .slice LA ln lc]] := h.step (a' := pOb p (setO S k false)) h3 h2 (fun _ h => .inl h)
                            exact ⟨h1, (HCEL.out X' _ h4 (.tail _ (.tail _ (.tail _ (.tail _ (.head _)))))).2.1, by rw [hB]; exact h4⟩
                          have CB : Hid (∀ X, STB X → Calls Tryd.prog 30 #[.pointer pr, .int .i64 k] X fun e X' => e = .returned (.int .i64 (errO S k)) ∧ X'.cell? ⟨bx, 1, none⟩ = some (.int .i64 k) ∧ STC X') := fun X h => by
                            rw [hB] at h
                            have h : Sep w.heap.size w X [pOb p (setO S k false), qOb pr br S, pOb pt T, qOb pu bu T, blkOb bx 53 #[.int .i64 d, .int .i64 k, .slice LA ln lc]] := h
                            refine (q_remove (h.get (.tail _ (.head _))) k).mono ?_
                            rintro e X' ⟨h1, h2, h3⟩
                            have h4 : Sep w.heap.size w X' [pOb p (setO S k false), qOb pr br (setO S k false), pOb pt T, qOb pu bu T, blkOb bx 53 #[.int .i64 d, .int .i64 k, .slice LA ln lc]] := h.step1 (a' := qOb pr br (setO S k false)) h3 h2 (fun _ h => .inl h)
                            exact ⟨h1, (HCEL.out X' _ h4 (.tail _ (.tail _ (.tail _ (.tail _ (.head _)))))).2.1, by rw [hC]; exact h4⟩
                          have sta0 : STA wr.drew := by rw [hA]; exact HX.out.drew
                          clear hA hB hC
                          go_wp2_with fail
                          go_region_held3 (fun X' => X'.cell? ⟨bx, 1, none⟩ = some (.int .i64 k)) (first | assumption | go_keep)
                            (first
                              | (go_at_call 26; refine (CA.out _ (by assumption)).mono ?_; rintro e x4 ⟨rfl, k1, stb⟩)
                              | (go_at_call 30; refine (CB.out _ (by assumption)).mono ?_; rintro e x5 ⟨rfl, k2, stc⟩))
                          all_goals
                            go_wp2_with fail
                            go_meet
                            exact ⟨p, pr, br, _, rfl, rfl, by have h := (by assumption : STC _); rw [HC.out] at h; exact h⟩
                      by_cases d2 : d = 2
                      · as_aux_lemma =>
                          have e0 : (d == 0) = false := by simpa using d0
                          have e1 : (d == 1) = false := by simpa using d1
                          have e2 : (d == 2) = true := by simpa using d2
                          clear d0 d1 d2 q0 q1 q2
                          obtain ⟨q0, q1, q2⟩ := HCEL.out wr _ HX.out (.tail _ (.tail _ (.tail _ (.tail _ (.head _)))))
                          go_wp2_with fail
                          refine (p_union (HX.out.get (.head _)) (HX.out.get (.tail _ (.tail _ (.head _))))).mono ?_
                          rintro e x4 ⟨rfl, h2, h3⟩
                          have HY : Hid (Sep w.heap.size w x4 [pOb p (orO S T), qOb pr br S, pOb pt T, qOb pu bu T, blkOb bx 53 #[.int .i64 d, .int .i64 k, .slice LA ln lc]]) := HX.out.step (a' := pOb p (orO S T)) h3 h2 (fun _ h => .inl h)
                          clear h2 h3
                          go_wp2_with fail
                          refine (q_union (HY.out.get (.tail _ (.head _))) (HY.out.get (.tail _ (.tail _ (.tail _ (.head _))))) (fun k hk hk2 => (List.pairwise_cons.1 (List.pairwise_cons.1 HY.out.apart).2).1 (qOb pu bu T) (.tail _ (.head _)) k hk2 hk)).mono ?_
                          rintro e x5 ⟨rfl, h2, h3⟩
                          have HZ2 : Hid (Sep w.heap.size w x5 [pOb p (orO S T), qOb pr br (orO S T), pOb pt T, qOb pu bu T, blkOb bx 53 #[.int .i64 d, .int .i64 k, .slice LA ln lc]]) := HY.out.step1 (a' := qOb pr br (orO S T)) h3 h2 (fun _ h => .inl h)
                          clear h2 h3
                          go_wp2_with fail
                          go_meet
                          exact ⟨p, pr, br, _, rfl, rfl, HZ2.out⟩
                      by_cases d3 : d = 3
                      · as_aux_lemma =>
                          have e0 : (d == 0) = false := by simpa using d0
                          have e1 : (d == 1) = false := by simpa using d1
                          have e2 : (d == 2) = false := by simpa using d2
                          have e3 : (d == 3) = true := by simpa using d3
                          clear d0 d1 d2 d3 q0 q1 q2
                          obtain ⟨q0, q1, q2⟩ := HCEL.out wr _ HX.out (.tail _ (.tail _ (.tail _ (.tail _ (.head _)))))
                          go_wp2_with fail
                          refine (p_minus (HX.out.get (.head _)) (HX.out.get (.tail _ (.tail _ (.head _))))).mono ?_
                          rintro e x4 ⟨rfl, h2, h3⟩
                          have HY : Hid (Sep w.heap.size w x4 [pOb p (notO S T), qOb pr br S, pOb pt T, qOb pu bu T, blkOb bx 53 #[.int .i64 d, .int .i64 k, .slice LA ln lc]]) := HX.out.step (a' := pOb p (notO S T)) h3 h2 (fun _ h => .inl h)
                          clear h2 h3
                          go_wp2_with fail
                          refine (q_minus (HY.out.get (.tail _ (.head _))) (HY.out.get (.tail _ (.tail _ (.tail _ (.head _))))) (fun k hk hk2 => (List.pairwise_cons.1 (List.pairwise_cons.1 HY.out.apart).2).1 (qOb pu bu T) (.tail _ (.head _)) k hk2 hk)).mono ?_
                          rintro e x5 ⟨rfl, h2, h3⟩
                          have HZ2 : Hid (Sep w.heap.size w x5 [pOb p (notO S T), qOb pr br (notO S T), pOb pt T, qOb pu bu T, blkOb bx 53 #[.int .i64 d, .int .i64 k, .slice LA ln lc]]) := HY.out.step1 (a' := qOb pr br (notO S T)) h3 h2 (fun _ h => .inl h)
                          clear h2 h3
                          go_wp2_with fail
                          go_meet
                          exact ⟨p, pr, br, _, rfl, rfl, HZ2.out⟩
                      by_cases d4 : d = 4
                      · as_aux_lemma =>
                          have e0 : (d == 0) = false := by simpa using d0
                          have e1 : (d == 1) = false := by simpa using d1
                          have e2 : (d == 2) = false := by simpa using d2
                          have e3 : (d == 3) = false := by simpa using d3
                          have e4 : (d == 4) = true := by simpa using d4
                          clear d0 d1 d2 d3 d4 q0 q1 q2
                          obtain ⟨q0, q1, q2⟩ := HCEL.out wr _ HX.out (.tail _ (.tail _ (.tail _ (.tail _ (.head _)))))
                          go_wp2_with fail
                          refine (p_copy (HX.out.get (.head _))).mono ?_
                          rintro e x4 ⟨p2, rfl, h2, hF, hb⟩
                          have HY : Hid (Sep w.heap.size w x4 [pOb p2 S, pOb p S, qOb pr br S, pOb pt T, qOb pu bu T, blkOb bx 53 #[.int .i64 d, .int .i64 k, .slice LA ln lc]]) := HX.out.add (a := pOb p2 S) hb h2 hF
                          clear h2 hF hb
                          go_wp2_with fail
                          refine (q_copy (HY.out.get (.tail _ (.tail _ (.head _))))).mono ?_
                          rintro e x5 ⟨pr2, br2, rfl, h2, hF, hb⟩
                          have HZ2 : Hid (Sep w.heap.size w x5 [qOb pr2 br2 S, pOb p2 S, pOb p S, qOb pr br S, pOb pt T, qOb pu bu T, blkOb bx 53 #[.int .i64 d, .int .i64 k, .slice LA ln lc]]) := HY.out.add (a := qOb pr2 br2 S) hb h2 hF
                          clear h2 hF hb
                          go_wp2_with fail
                          go_meet
                          exact ⟨p2, pr2, br2, S, rfl, rfl, (HZ2.out.perm (List.Perm.swap _ _ _)).sub (((List.sublist_append_right [pOb p S, qOb pr br S] [pOb pt T, qOb pu bu T, blkOb bx 53 #[.int .i64 d, .int .i64 k, .slice LA ln lc]]).cons_cons _).cons_cons _)⟩
                      have e0 : (d == 0) = false := by simpa using d0
                      have e1 : (d == 1) = false := by simpa using d1
                      have e2 : (d == 2) = false := by simpa using d2
                      have e3 : (d == 3) = false := by simpa using d3
                      have e4 : (d == 4) = false := by simpa using d4
                      clear d0 d1 d2 d3 d4
                      go_wp2_with fail
                      go_meet
                      exact ⟨p, pr, br, S, rfl, rfl, HX.out⟩
                  case rest =>
                    obtain ⟨p', pr', br', S', rfl, rfl, hs⟩ := hcut
                    have H6 := Lib.hid hs
                    clear hs
                    as_aux_lemma =>
                      obtain ⟨q0, q1, q2⟩ := HCEL.out wc _ H6.out (.tail _ (.tail _ (.tail _ (.tail _ (.head _)))))
                      clear q0 q2
                      go_wp2_with fail
                      refine (p_next (H6.out.get (.head _)) (H6.out.tab HT.out hp) fr HFR.out).mono ?_
                      rintro e x' ⟨rfl, rfl⟩
                      go_wp2_with fail
                      refine (q_next (H6.out.get (.tail _ (.head _))) fr).mono ?_
                      rintro e x7 ⟨rfl, hb⟩
                      have H7 := Lib.hid (H6.out.below hb)
                      clear hb q1 H6
                      go_wp2_with fail
                      refine (p_lowest (H7.out.get (.head _)) (H7.out.tab HT.out hp)).mono ?_
                      rintro e x' ⟨rfl, rfl⟩
                      go_wp2_with fail
                      refine (q_lowest (H7.out.get (.tail _ (.head _)))).mono ?_
                      rintro e x8 ⟨rfl, hb⟩
                      have H8 := Lib.hid (H7.out.below hb)
                      clear hb H7
                      obtain ⟨V, hV⟩ : ∃ V : List Ob, V = [pOb p' S', qOb pr' br' S', pOb pt T, qOb pu bu T, blkOb bx 53 #[.int .i64 d, .int .i64 k, .slice LA ln lc]] := ⟨_, rfl⟩
                      have m1 : pOb p' S' ∈ V := by rw [hV]; exact .head _
                      have m2 : qOb pr' br' S' ∈ V := by rw [hV]; exact .tail _ (.head _)
                      have m3 : pOb pt T ∈ V := by rw [hV]; exact .tail _ (.tail _ (.head _))
                      have m4 : qOb pu bu T ∈ V := by rw [hV]; exact .tail _ (.tail _ (.tail _ (.head _)))
                      have m5 : blkOb bx 53 #[.int .i64 d, .int .i64 k, .slice LA ln lc] ∈ V := by rw [hV]; exact .tail _ (.tail _ (.tail _ (.tail _ (.head _))))
                      have HV := Lib.hid hV
                      have st0 : Sep w.heap.size w x8.drew V := by rw [hV]; exact H8.out.drew
                      have st1 : Sep w.heap.size w x8 V := by rw [hV]; exact H8.out
                      obtain ⟨q0, q1, q2⟩ := HCEL.out x8 _ st1 m5
                      clear hV q0 q2 st1 H8
                      have HCK : Hid (∀ X, Sep w.heap.size w X V → X.cell? ⟨bx, 1, none⟩ = some (.int .i64 k)) := fun X h => (HCEL.out X _ h m5).2.1
                      have CH1 : Hid (∀ X q Q, Sep w.heap.size w X V → pOb q Q ∈ V → Calls Tryd.prog 16 #[.pointer q, .int .i64 k] X fun e X' => e = .returned (.bool (hasO Q k)) ∧ X = X') := fun X q Q h hm => p_has (h.get hm) k
                      have CH2 : Hid (∀ X q b Q, Sep w.heap.size w X V → qOb q b Q ∈ V → Calls Tryd.prog 37 #[.pointer q, .int .i64 k] X fun e X' => e = .returned (.bool (hasO Q k)) ∧ X = X') := fun X q b Q h hm => q_has (h.get hm) k
                      have CZ1 : Hid (∀ X q Q, Sep w.heap.size w X V → pOb q Q ∈ V → Calls Tryd.prog 23 #[.pointer q] X fun e X' => e = .returned (.int .i64 (sizeO Q)) ∧ X = X') := fun X q Q h hm => p_size (h.get hm)
                      have CZ2 : Hid (∀ X q b Q, Sep w.heap.size w X V → qOb q b Q ∈ V → Calls Tryd.prog 38 #[.pointer q] X fun e X' => e = .returned (.int .i64 (sizeO Q)) ∧ X = X') := fun X q b Q h hm => q_size (h.get hm)
                      have CAL : Hid (∀ X q b Q, Sep w.heap.size w X V → qOb q b Q ∈ V → Calls Tryd.prog 39 #[.pointer q] X fun e X' => ∃ A c, e = .returned (.slice A (slO Q).length c) ∧ X'.cell? ⟨bx, 1, none⟩ = some (.int .i64 k) ∧ Sep w.heap.size w X' V ∧ Reads X' X'.heap.size 1 A (slO Q).length (nats (slO Q)) ∧ Hid (Q = none → A = none ∧ c = 0)) := fun X q b Q h hm => by
                        refine (q_all (h.get hm)).mono ?_
                        rintro e X' ⟨A, c, h1, h2, h3, h4⟩
                        exact ⟨A, c, h1, HCK.out X' (h.below h4), h.below h4, h2, h3⟩
                      have CSM : Hid (∀ X q Q A c, Sep w.heap.size w X V → pOb q Q ∈ V → Reads X X.heap.size 1 A (slO Q).length (nats (slO Q)) → Hid (Q = none → A = none ∧ c = 0) → Calls Tryd.prog 14 #[.pointer q, .slice A (slO Q).length c] X fun e X' => e = .returned (.bool true) ∧ X'.cell? ⟨bx, 1, none⟩ = some (.int .i64 k) ∧ Sep w.heap.size w X' V) := fun X q Q A c h hm hr hA => by
                        refine (p_same (h.get hm) A c hr hA.out).mono ?_
                        rintro e X' ⟨h1, h2⟩
                        exact ⟨h1, HCK.out X' (h.below h2), h.below h2⟩
                      go_wp2_with fail
                      go_region_held3 (fun X' => X'.cell? ⟨bx, 1, none⟩ = some (.int .i64 k)) (first | assumption | go_keep)
                        (first
                          | (go_at_call 16; refine (CH1.out _ _ _ (by assumption) (by assumption)).mono ?_; rintro e x' ⟨rfl, rfl⟩)
                          | (go_at_call 37; refine (CH2.out _ _ _ _ (by assumption) (by assumption)).mono ?_; rintro e x' ⟨rfl, rfl⟩)
                          | (go_at_call 23; refine (CZ1.out _ _ _ (by assumption) (by assumption)).mono ?_; rintro e x' ⟨rfl, rfl⟩)
                          | (go_at_call 38; refine (CZ2.out _ _ _ _ (by assumption) (by assumption)).mono ?_; rintro e x' ⟨rfl, rfl⟩)
                          | (go_at_call 39; refine (CAL.out _ _ _ _ (by assumption) (by assumption)).mono ?_; rintro e x9 ⟨A9, c9, rfl, k9, s9, r9, h9⟩)
                          | (go_at_call 14; refine (CSM.out _ _ _ _ _ (by assumption) (by assumption) (by assumption) (by assumption)).mono ?_; rintro e x10 ⟨rfl, k10, s10⟩))
                      all_goals
                        go_wp2_with fail
                        go_roundg (n - j - 1)
                        case measure => have := HJ.out; omega
                        case rel => exact ⟨j + 1, p', pr', br', S', by have := HJ.out; omega, by go_num, rfl, rfl, by have h := (by assumption : Sep w.heap.size w _ V); rw [HV.out] at h; exact h.sub (List.sublist_append_left [pOb p' S', qOb pr' br' S'] [pOb pt T, qOb pu bu T, blkOb bx 53 #[.int .i64 d, .int .i64 k, .slice LA ln lc]])⟩
            · clear hj hs
              go_wp2_with fail
              refine (works_any _ (H.out.tab HT.out hp)).mono ?_
              rintro e w12 ⟨rfl, hb⟩
              go_wp2
              go_ret
              exact ⟨rfl, bt H.out.bel hb⟩
theorem SlotsetPlays_walk (v0 v1 v2 v3 : Value) (w : World) (ht : TabIn w) (h0 : ArgIn Tryd.prog w 3 v0) (h1 : ArgIn Tryd.prog w 3 v1) (h2 : ArgIn Tryd.prog w 51 v2) (h3 : ArgIn Tryd.prog w 3 v3) :
    Calls Tryd.prog 9 #[v0, v1, v2, v3] w fun e w' => e = .returned (.bool true) ∧ Below w.heap.size w w' := by
  obtain ⟨a, rfl, _⟩ := h0.int Tryd.underlying3
  obtain ⟨b, rfl, _⟩ := h1.int Tryd.underlying3
  obtain ⟨A, n, c, rfl, hm, hst⟩ := ssteps_arg h2
  obtain ⟨f, rfl, w3⟩ := h3.int Tryd.underlying3
  exact SlotsetPlays_w a b f (i64_of_wf w3) A n c w ht hst hm
end Go.Proofs.YthmkaefpgcjlnaaDoor

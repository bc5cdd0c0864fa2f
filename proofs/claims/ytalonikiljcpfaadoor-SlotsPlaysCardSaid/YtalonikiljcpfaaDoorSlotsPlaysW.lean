/-
  The walk of the law SlotsPlays: it returns true and writes nothing that was there. Condition: the variables hold what their texts list.
-/
import Derived.Test.YtalonikiljcpfaaDoorTabAlike
import Derived.Test.YtalonikiljcpfaaDoorSlotLaid
namespace Go.Proofs.YtalonikiljcpfaaDoor
open Go.RowKit
set_option linter.unusedVariables false
structure PStep where
  d : Int
  sl : Int
structure PStepAt (w : World) (B : Nat) (A : Option Addr) (i : Nat) (ad : Addr) (t : PStep) : Prop where
  a : A = some ad
  lt : ad.block < B
  c0 : w.cell? (ad.add (i * 2)) = some (.int .i64 t.d)
  c1 : w.cell? ⟨(ad.add (i * 2)).block, (ad.add (i * 2)).off + 1, none⟩ = some (.int .i64 t.sl)
def PStepsAt (w : World) (B : Nat) (A : Option Addr) (n : Nat) (ts : Nat → PStep) : Prop := ∀ i, i < n → ∃ ad, PStepAt w B A i ad (ts i)
theorem PStepsAt.below {w w' : World} {A : Option Addr} {n : Nat} {ts : Nat → PStep} {B : Nat} (h : PStepsAt w B A n ts) (hb : Below B w w') : PStepsAt w' B A n ts := fun i hi => by
  obtain ⟨ad, h⟩ := h i hi
  have key : ∀ p : Addr, p.block = ad.block → w'.cell? p = w.cell? p := fun p hp => hb.cell (by rw [hp]; exact h.lt)
  exact ⟨ad, h.a, h.lt, (key _ (block_of_add _ _)).trans h.c0, (key ⟨(ad.add (i * 2)).block, _, none⟩ (block_of_add ad (i * 2))).trans h.c1⟩
theorem pstep_of_rd {w : World} {cs : List Value} (hl : cs.length = Tryd.prog.cellsOf 61)
    (hf : ∀ (i : Nat) (f : Field), (match Tryd.prog.underlying 61 with | some (.struct fs) => fs[i]? | _ => none) = some f → Rd Tryd.prog w f.type ((cs.drop f.offset).take (Tryd.prog.cellsOf f.type))) :
    ∃ t : PStep, cs = [Value.int .i64 t.d, .int .i64 t.sl] := by
  have hC : Tryd.prog.cellsOf 61 = 2 := by kernel_rfl
  have hC1 : Tryd.prog.cellsOf 3 = 1 := by kernel_rfl
  rw [hC] at hl
  obtain ⟨x0, x1, rfl⟩ : ∃ a b, cs = [a, b] := by
    match cs, hl with
    | [a, b], _ => exact ⟨a, b, rfl⟩
  rw [Tryd.underlying61] at hf
  have g0 : Rd Tryd.prog w 3 [x0] := by simpa [hC1] using hf 0 _ rfl
  have g1 : Rd Tryd.prog w 3 [x1] := by simpa [hC1] using hf 1 _ rfl
  obtain ⟨y0, e0, w0⟩ := Rd.int (k := .i64) Tryd.underlying3 g0
  obtain ⟨y1, e1, w1⟩ := Rd.int (k := .i64) Tryd.underlying3 g1
  refine ⟨⟨y0, y1⟩, ?_⟩
  have e0' : x0 = .int .i64 y0 := by simpa using e0
  have e1' : x1 = .int .i64 y1 := by simpa using e1
  subst e0' e1'
  rfl
theorem psteps_arg {w : World} {v : Value} (h : ArgIn Tryd.prog w 56 v) : ∃ A n c ts, v = .slice A n c ∧ n ≤ c ∧ c ≤ maxLen ∧ PStepsAt w w.heap.size A n ts := by
  obtain ⟨A, n, c, xs, rfl, h1, h2, h3, h4⟩ := h.slice (e := 61) rfl (by decide +kernel)
  have hC : Tryd.prog.cellsOf 61 = 2 := by kernel_rfl
  have key : ∀ i, ∃ t : PStep, i < n → ∃ ad, PStepAt w w.heap.size A i ad t := fun i => by
    by_cases hi : i < n
    · obtain ⟨hl, hf⟩ := Rd.struct Tryd.underlying61 (h4 i hi)
      obtain ⟨t, e⟩ := pstep_of_rd hl (fun i f hf' => by rw [Tryd.underlying61] at hf'; exact hf i f hf')
      rw [hC] at h3 e
      obtain ⟨ad, ea, hbk, hc⟩ := h3.2 (by omega)
      have at_ : ∀ q v, [Value.int .i64 t.d, .int .i64 t.sl][q]? = some v → q < 2 → w.cell? ((ad.add (i * 2)).add q) = some v := by
        intro q v hq hq3
        rw [← e, List.getElem?_take, if_pos hq3, List.getElem?_drop] at hq
        rw [add_of_add]
        exact hc _ _ hq
      refine ⟨t, fun _ => ⟨ad, ea, hbk, ?_, ?_⟩⟩
      · have := at_ 0 _ rfl (by omega); rw [add_of_add, Nat.add_zero] at this; exact this
      · exact at_ 1 _ rfl (by omega)
    · exact ⟨⟨0, 0⟩, fun h => absurd h hi⟩
  exact ⟨A, n, c, fun i => (key i).choose, rfl, h1, h2, fun i hi => (key i).choose_spec hi⟩
theorem Sep.rtab {B : Nat} {w0 w : World} {x : Ob} {g b r : Nat} {T : List Nat} {os : List Ob} (h : Sep B w0 w (x :: rtabOb g b r T :: os)) : RTab w g b r T := h.get (.tail _ (.head _))
theorem Sep.rtabTo {B : Nat} {w0 w w' : World} {x : Ob} {g b r : Nat} {T T' : List Nat} {os : List Ob} (h : Sep B w0 w (x :: rtabOb g b r T :: os)) (ht : RtTo w w' g b r T') : Sep B w0 w' (x :: rtabOb g b r T' :: os) :=
  h.step1 (a' := rtabOb g b r T') ht.2 ht.1 (fun _ h => .inl h)
set_option maxHeartbeats 16000000 in
set_option maxRecDepth 100000 in
theorem SlotsPlays_ok (A : Option Addr) (m c : Nat) (ts : Nat → PStep) (st : Int) (w : World) (hl : LaidIn w) (hr : PStepsAt w w.heap.size A m ts) (hn : m ≤ c) (hc : c ≤ maxLen) (n r : Nat) (h1 : 1 ≤ n) (h2 : n ≤ 32) (hrn : r ≤ n) :
    Calls Tryd.prog 9 #[.int .i64 (n : Int), .int .i64 (r : Int), .slice A m c, .int .i64 st] w fun e w' => e = .returned (.bool true) ∧ Below w.heap.size w w' := by
  have HR := Lib.hid hr
  have HL := Lib.hid hl
  have hB := hl.big
  unfold maxLen at hc
  clear hr hl
  by_cases hm : 150 < m
  · go_enter Tryd.func9, Tryd.ntmps9
    go_wp2_with fail
    refine (works_any _ HL.out).mono ?_
    rintro e w9 ⟨rfl, hb⟩
    have HB := Lib.hid hb
    clear hb
    go_wp2_with fail
    go_ret
    exact ⟨rfl, HB.out⟩
  go_enter Tryd.func9, Tryd.ntmps9
  go_wp2_with fail
  refine (sep_tnew (Sep.start w) n r h1 h2 hrn).mono ?_
  rintro e w1 ⟨g0, p0, rfl, hs⟩
  have HS1 := Lib.hid hs
  clear hs
  go_wp2_with fail
  refine (rtnew n r w1 h1 h2 hrn).mono ?_
  rintro e w2 ⟨g1, b1, rfl, k1, k2, k3⟩
  have HS2 : Hid (Sep w.heap.size w w2 [tabOb g0 p0 r (List.replicate n 0), rtabOb g1 b1 r (List.replicate n 0)]) := (HS1.out.add (a := rtabOb g1 b1 r (List.replicate n 0)) k3 k1 k2).perm (List.Perm.swap _ _ _)
  clear k1 k2 k3
  go_wp2_with fail
  go_loopg [9, 11, 13] m (fun q v9 v11 v13 wr => ∃ (j g : Nat) (p : Nat → Nat) (g' b : Nat) (T : List Nat), j + q = m ∧ v9 = .pointer (some ⟨g, 0, none⟩) ∧ v11 = .pointer (some ⟨g', 0, none⟩) ∧ v13 = .int .i64 j ∧ Sep w.heap.size w wr [tabOb g p r T, rtabOb g' b r T])
  case atStart => exact ⟨0, g0, p0, g1, b1, _, by omega, rfl, rfl, rfl, HS2.out⟩
  case round =>
    obtain ⟨j, g, p, g', b, T, hj, rfl, rfl, rfl, hs⟩ := hrel
    have HJ := Lib.hid hj
    have hj' : j ≤ m := by omega
    have HS := Lib.hid hs
    by_cases hlt : j < m
    · obtain ⟨ad, ht⟩ := HR.out.below hs.bel j hlt
      obtain rfl := ht.a
      have c0 := ht.c0
      have c1 := ht.c1
      obtain ⟨d, hd⟩ : ∃ d, (ts j).d = d := ⟨_, rfl⟩
      obtain ⟨sl, hsl⟩ : ∃ sl, (ts j).sl = sl := ⟨_, rfl⟩
      rw [hd] at c0
      rw [hsl] at c1
      have hcs : d = 0 ∨ d = 1 ∨ d = 2 ∨ d = 3 ∨ d = 4 ∨ d = 5 ∨ d = 6 ∨ ((d == 0) = false ∧ (d == 1) = false ∧ (d == 2) = false ∧ (d == 3) = false ∧ (d == 4) = false ∧ (d == 5) = false ∧ (d == 6) = false) := by
        simp only [beq_eq_false_iff_ne]
        omega
      clear hj hs ht hd hsl
      obtain ⟨W2, hW2⟩ : ∃ W2, W2 = wr.alloc (.cells #[.int .i64 d, .int .i64 sl] 61) := ⟨_, rfl⟩
      obtain ⟨sb, hsb⟩ : ∃ sb, sb = wr.heap.size := ⟨_, rfl⟩
      have HS3 : Hid (Sep w.heap.size w W2 [tabOb g p r T, rtabOb g' b r T, blkOb sb 61 #[.int .i64 d, .int .i64 sl]]) := by
        rw [hW2, hsb]
        exact (HS.out.newBlk wr.heap.size _ _ rfl).perm (List.perm_append_comm (l₁ := [_]) (l₂ := [_, _]))
      rcases hcs with rfl | rfl | rfl | rfl | rfl | rfl | rfl | hcs
      · have q0 : W2.cell? ⟨sb, 0, none⟩ = some (.int .i64 0) := (show Blk W2 sb 61 #[.int .i64 0, .int .i64 sl] from HS3.out.get (.tail _ (.tail _ (.head _)))).cell 0
        go_wp2_with fail
        rw [← hsb, ← hW2]
        clear hW2 hsb c0 c1
        refine (sep_tactive HS3.out HL.out hB _ _ _ rfl rfl rfl).mono ?_
        rintro e w3 ⟨rfl, hs⟩
        have HS4 := Lib.hid hs
        clear hs
        go_wp2_with fail
        refine (rtactive HS4.out.rtab).mono ?_
        rintro e w4 ⟨rfl, hs⟩
        have HS5 := Lib.hid (HS4.out.rtabTo hs)
        clear hs
        have q1 : w4.cell? ⟨sb, 1, none⟩ = some (.int .i64 sl) := (show Blk w4 sb 61 #[.int .i64 0, .int .i64 sl] from HS5.out.get (.tail _ (.tail _ (.head _)))).cell 1
        go_wp2_with fail
        refine (alike_any HS5.out.table HS5.out.rtab (HS5.out.laid HL.out hB).tab sl st).mono ?_
        rintro e w20 ⟨rfl, hb⟩
        have HS20 := Lib.hid ((HS5.out.below hb).sub (.cons_cons _ (.cons_cons _ (.cons _ .slnil))))
        clear hb q1
        go_wp2_with fail
        go_roundg (gk - 1)
        case measure => have := HJ.out; omega
        case rel => exact ⟨j + 1, _, _, _, _, _, by have := HJ.out; omega, rfl, rfl, by go_num, HS20.out⟩
      · have q0 : W2.cell? ⟨sb, 0, none⟩ = some (.int .i64 1) := (show Blk W2 sb 61 #[.int .i64 1, .int .i64 sl] from HS3.out.get (.tail _ (.tail _ (.head _)))).cell 0
        go_wp2_with fail
        rw [← hsb, ← hW2]
        clear hW2 hsb c0 c1
        refine (sep_toutput HS3.out HL.out hB _ _ _ rfl rfl rfl).mono ?_
        rintro e w3 ⟨rfl, hs⟩
        have HS4 := Lib.hid hs
        clear hs
        go_wp2_with fail
        refine (rtoutput HS4.out.rtab).mono ?_
        rintro e w4 ⟨rfl, hs⟩
        have HS5 := Lib.hid (HS4.out.rtabTo hs)
        clear hs
        have q1 : w4.cell? ⟨sb, 1, none⟩ = some (.int .i64 sl) := (show Blk w4 sb 61 #[.int .i64 1, .int .i64 sl] from HS5.out.get (.tail _ (.tail _ (.head _)))).cell 1
        go_wp2_with fail
        refine (alike_any HS5.out.table HS5.out.rtab (HS5.out.laid HL.out hB).tab sl st).mono ?_
        rintro e w20 ⟨rfl, hb⟩
        have HS20 := Lib.hid ((HS5.out.below hb).sub (.cons_cons _ (.cons_cons _ (.cons _ .slnil))))
        clear hb q1
        go_wp2_with fail
        go_roundg (gk - 1)
        case measure => have := HJ.out; omega
        case rel => exact ⟨j + 1, _, _, _, _, _, by have := HJ.out; omega, rfl, rfl, by go_num, HS20.out⟩
      · have q0 : W2.cell? ⟨sb, 0, none⟩ = some (.int .i64 2) := (show Blk W2 sb 61 #[.int .i64 2, .int .i64 sl] from HS3.out.get (.tail _ (.tail _ (.head _)))).cell 0
        go_wp2_with fail
        rw [← hsb, ← hW2]
        clear hW2 hsb c0 c1
        obtain ⟨ce, hce⟩ : ∃ ce, chgE sealB 2 T sl = ce := ⟨_, rfl⟩
        obtain ⟨STA, hSTA⟩ : ∃ STA : World → Prop, STA = fun X => Sep w.heap.size w X [tabOb g p r T, rtabOb g' b r T, blkOb sb 61 #[.int .i64 2, .int .i64 sl]] := ⟨_, rfl⟩
        obtain ⟨STB, hSTB⟩ : ∃ STB : World → Prop, STB = fun X => Sep w.heap.size w X [tabOb g p r (chgT sealB 2 T sl), rtabOb g' b r T, blkOb sb 61 #[.int .i64 2, .int .i64 sl]] := ⟨_, rfl⟩
        obtain ⟨STC, hSTC⟩ : ∃ STC : World → Prop, STC = fun X => Sep w.heap.size w X [tabOb g p r (chgT sealB 2 T sl), rtabOb g' b r (chgT sealB 2 T sl), blkOb sb 61 #[.int .i64 2, .int .i64 sl]] := ⟨_, rfl⟩
        have C1 : Hid (∀ X, STA X → Calls Tryd.prog 17 #[.pointer (some ⟨g, 0, none⟩), .int .i64 sl] X fun e X' => e = .returned (.int .i64 ce) ∧ X'.cell? ⟨sb, 1, none⟩ = some (.int .i64 sl) ∧ STB X') := fun X hX => by
          rw [hSTA] at hX
          refine (sep_tseal hX HL.out hB sl ce _ hce rfl).mono ?_
          rintro e X' ⟨h1, h2⟩
          exact ⟨h1, (show Blk X' sb 61 #[.int .i64 2, .int .i64 sl] from h2.get (.tail _ (.tail _ (.head _)))).cell 1, by rw [hSTB]; exact h2⟩
        have C2 : Hid (∀ X, STB X → Calls Tryd.prog 32 #[.pointer (some ⟨g', 0, none⟩), .int .i64 sl] X fun e X' => e = .returned (.int .i64 ce) ∧ X'.cell? ⟨sb, 1, none⟩ = some (.int .i64 sl) ∧ STC X') := fun X hX => by
          rw [hSTB] at hX
          refine (rtseal hX.rtab sl).mono ?_
          rintro e X' ⟨h1, h2⟩
          rw [hce] at h1
          have h3 := hX.rtabTo h2
          exact ⟨h1, (show Blk X' sb 61 #[.int .i64 2, .int .i64 sl] from h3.get (.tail _ (.tail _ (.head _)))).cell 1, by rw [hSTC]; exact h3⟩
        have sta : STA W2.drew := by rw [hSTA]; exact HS3.out.drew
        have q1 : W2.cell? ⟨sb, 1, none⟩ = some (.int .i64 sl) := (show Blk W2 sb 61 #[.int .i64 2, .int .i64 sl] from HS3.out.get (.tail _ (.tail _ (.head _)))).cell 1
        have HSTC := Lib.hid hSTC
        clear hSTA hSTB hSTC hce q0
        go_region_held3 (fun X' => X'.cell? ⟨sb, 1, none⟩ = some (.int .i64 sl)) (first | assumption | go_keep)
          (first
            | (go_at_call 17; refine (C1.out _ (by assumption)).mono ?_; rintro e w3 ⟨rfl, q3, stb⟩)
            | (go_at_call 32; refine (C2.out _ (by assumption)).mono ?_; rintro e w4 ⟨rfl, q4, stc⟩))
        rw [HSTC.out] at stc
        have HS5 := Lib.hid stc
        clear sta stb stc q1 C1 C2
        have q1 : w4.cell? ⟨sb, 1, none⟩ = some (.int .i64 sl) := (show Blk w4 sb 61 #[.int .i64 2, .int .i64 sl] from HS5.out.get (.tail _ (.tail _ (.head _)))).cell 1
        go_wp2_with fail
        refine (alike_any HS5.out.table HS5.out.rtab (HS5.out.laid HL.out hB).tab sl st).mono ?_
        rintro e w20 ⟨rfl, hb⟩
        have HS20 := Lib.hid ((HS5.out.below hb).sub (.cons_cons _ (.cons_cons _ (.cons _ .slnil))))
        clear hb q1
        go_wp2_with fail
        go_roundg (gk - 1)
        case measure => have := HJ.out; omega
        case rel => exact ⟨j + 1, _, _, _, _, _, by have := HJ.out; omega, rfl, rfl, by go_num, HS20.out⟩
      · have q0 : W2.cell? ⟨sb, 0, none⟩ = some (.int .i64 3) := (show Blk W2 sb 61 #[.int .i64 3, .int .i64 sl] from HS3.out.get (.tail _ (.tail _ (.head _)))).cell 0
        go_wp2_with fail
        rw [← hsb, ← hW2]
        clear hW2 hsb c0 c1
        obtain ⟨ce, hce⟩ : ∃ ce, chgE chooseB 3 T sl = ce := ⟨_, rfl⟩
        obtain ⟨STA, hSTA⟩ : ∃ STA : World → Prop, STA = fun X => Sep w.heap.size w X [tabOb g p r T, rtabOb g' b r T, blkOb sb 61 #[.int .i64 3, .int .i64 sl]] := ⟨_, rfl⟩
        obtain ⟨STB, hSTB⟩ : ∃ STB : World → Prop, STB = fun X => Sep w.heap.size w X [tabOb g p r (chgT chooseB 3 T sl), rtabOb g' b r T, blkOb sb 61 #[.int .i64 3, .int .i64 sl]] := ⟨_, rfl⟩
        obtain ⟨STC, hSTC⟩ : ∃ STC : World → Prop, STC = fun X => Sep w.heap.size w X [tabOb g p r (chgT chooseB 3 T sl), rtabOb g' b r (chgT chooseB 3 T sl), blkOb sb 61 #[.int .i64 3, .int .i64 sl]] := ⟨_, rfl⟩
        have C1 : Hid (∀ X, STA X → Calls Tryd.prog 18 #[.pointer (some ⟨g, 0, none⟩), .int .i64 sl] X fun e X' => e = .returned (.int .i64 ce) ∧ X'.cell? ⟨sb, 1, none⟩ = some (.int .i64 sl) ∧ STB X') := fun X hX => by
          rw [hSTA] at hX
          refine (sep_tchoose hX HL.out hB sl ce _ hce rfl).mono ?_
          rintro e X' ⟨h1, h2⟩
          exact ⟨h1, (show Blk X' sb 61 #[.int .i64 3, .int .i64 sl] from h2.get (.tail _ (.tail _ (.head _)))).cell 1, by rw [hSTB]; exact h2⟩
        have C2 : Hid (∀ X, STB X → Calls Tryd.prog 33 #[.pointer (some ⟨g', 0, none⟩), .int .i64 sl] X fun e X' => e = .returned (.int .i64 ce) ∧ X'.cell? ⟨sb, 1, none⟩ = some (.int .i64 sl) ∧ STC X') := fun X hX => by
          rw [hSTB] at hX
          refine (rtchoose hX.rtab sl).mono ?_
          rintro e X' ⟨h1, h2⟩
          rw [hce] at h1
          have h3 := hX.rtabTo h2
          exact ⟨h1, (show Blk X' sb 61 #[.int .i64 3, .int .i64 sl] from h3.get (.tail _ (.tail _ (.head _)))).cell 1, by rw [hSTC]; exact h3⟩
        have sta : STA W2.drew := by rw [hSTA]; exact HS3.out.drew
        have q1 : W2.cell? ⟨sb, 1, none⟩ = some (.int .i64 sl) := (show Blk W2 sb 61 #[.int .i64 3, .int .i64 sl] from HS3.out.get (.tail _ (.tail _ (.head _)))).cell 1
        have HSTC := Lib.hid hSTC
        clear hSTA hSTB hSTC hce q0
        go_region_held3 (fun X' => X'.cell? ⟨sb, 1, none⟩ = some (.int .i64 sl)) (first | assumption | go_keep)
          (first
            | (go_at_call 18; refine (C1.out _ (by assumption)).mono ?_; rintro e w3 ⟨rfl, q3, stb⟩)
            | (go_at_call 33; refine (C2.out _ (by assumption)).mono ?_; rintro e w4 ⟨rfl, q4, stc⟩))
        rw [HSTC.out] at stc
        have HS5 := Lib.hid stc
        clear sta stb stc q1 C1 C2
        have q1 : w4.cell? ⟨sb, 1, none⟩ = some (.int .i64 sl) := (show Blk w4 sb 61 #[.int .i64 3, .int .i64 sl] from HS5.out.get (.tail _ (.tail _ (.head _)))).cell 1
        go_wp2_with fail
        refine (alike_any HS5.out.table HS5.out.rtab (HS5.out.laid HL.out hB).tab sl st).mono ?_
        rintro e w20 ⟨rfl, hb⟩
        have HS20 := Lib.hid ((HS5.out.below hb).sub (.cons_cons _ (.cons_cons _ (.cons _ .slnil))))
        clear hb q1
        go_wp2_with fail
        go_roundg (gk - 1)
        case measure => have := HJ.out; omega
        case rel => exact ⟨j + 1, _, _, _, _, _, by have := HJ.out; omega, rfl, rfl, by go_num, HS20.out⟩
      · have q0 : W2.cell? ⟨sb, 0, none⟩ = some (.int .i64 4) := (show Blk W2 sb 61 #[.int .i64 4, .int .i64 sl] from HS3.out.get (.tail _ (.tail _ (.head _)))).cell 0
        go_wp2_with fail
        rw [← hsb, ← hW2]
        clear hW2 hsb c0 c1
        obtain ⟨ce, hce⟩ : ∃ ce, chgE dropB 0 T sl = ce := ⟨_, rfl⟩
        obtain ⟨STA, hSTA⟩ : ∃ STA : World → Prop, STA = fun X => Sep w.heap.size w X [tabOb g p r T, rtabOb g' b r T, blkOb sb 61 #[.int .i64 4, .int .i64 sl]] := ⟨_, rfl⟩
        obtain ⟨STB, hSTB⟩ : ∃ STB : World → Prop, STB = fun X => Sep w.heap.size w X [tabOb g p r (chgT dropB 0 T sl), rtabOb g' b r T, blkOb sb 61 #[.int .i64 4, .int .i64 sl]] := ⟨_, rfl⟩
        obtain ⟨STC, hSTC⟩ : ∃ STC : World → Prop, STC = fun X => Sep w.heap.size w X [tabOb g p r (chgT dropB 0 T sl), rtabOb g' b r (chgT dropB 0 T sl), blkOb sb 61 #[.int .i64 4, .int .i64 sl]] := ⟨_, rfl⟩
        have C1 : Hid (∀ X, STA X → Calls Tryd.prog 19 #[.pointer (some ⟨g, 0, none⟩), .int .i64 sl] X fun e X' => e = .returned (.int .i64 ce) ∧ X'.cell? ⟨sb, 1, none⟩ = some (.int .i64 sl) ∧ STB X') := fun X hX => by
          rw [hSTA] at hX
          refine (sep_tdrop hX HL.out hB sl ce _ hce rfl).mono ?_
          rintro e X' ⟨h1, h2⟩
          exact ⟨h1, (show Blk X' sb 61 #[.int .i64 4, .int .i64 sl] from h2.get (.tail _ (.tail _ (.head _)))).cell 1, by rw [hSTB]; exact h2⟩
        have C2 : Hid (∀ X, STB X → Calls Tryd.prog 34 #[.pointer (some ⟨g', 0, none⟩), .int .i64 sl] X fun e X' => e = .returned (.int .i64 ce) ∧ X'.cell? ⟨sb, 1, none⟩ = some (.int .i64 sl) ∧ STC X') := fun X hX => by
          rw [hSTB] at hX
          refine (rtdrop hX.rtab sl).mono ?_
          rintro e X' ⟨h1, h2⟩
          rw [hce] at h1
          have h3 := hX.rtabTo h2
          exact ⟨h1, (show Blk X' sb 61 #[.int .i64 4, .int .i64 sl] from h3.get (.tail _ (.tail _ (.head _)))).cell 1, by rw [hSTC]; exact h3⟩
        have sta : STA W2.drew := by rw [hSTA]; exact HS3.out.drew
        have q1 : W2.cell? ⟨sb, 1, none⟩ = some (.int .i64 sl) := (show Blk W2 sb 61 #[.int .i64 4, .int .i64 sl] from HS3.out.get (.tail _ (.tail _ (.head _)))).cell 1
        have HSTC := Lib.hid hSTC
        clear hSTA hSTB hSTC hce q0
        go_region_held3 (fun X' => X'.cell? ⟨sb, 1, none⟩ = some (.int .i64 sl)) (first | assumption | go_keep)
          (first
            | (go_at_call 19; refine (C1.out _ (by assumption)).mono ?_; rintro e w3 ⟨rfl, q3, stb⟩)
            | (go_at_call 34; refine (C2.out _ (by assumption)).mono ?_; rintro e w4 ⟨rfl, q4, stc⟩))
        rw [HSTC.out] at stc
        have HS5 := Lib.hid stc
        clear sta stb stc q1 C1 C2
        have q1 : w4.cell? ⟨sb, 1, none⟩ = some (.int .i64 sl) := (show Blk w4 sb 61 #[.int .i64 4, .int .i64 sl] from HS5.out.get (.tail _ (.tail _ (.head _)))).cell 1
        go_wp2_with fail
        refine (alike_any HS5.out.table HS5.out.rtab (HS5.out.laid HL.out hB).tab sl st).mono ?_
        rintro e w20 ⟨rfl, hb⟩
        have HS20 := Lib.hid ((HS5.out.below hb).sub (.cons_cons _ (.cons_cons _ (.cons _ .slnil))))
        clear hb q1
        go_wp2_with fail
        go_roundg (gk - 1)
        case measure => have := HJ.out; omega
        case rel => exact ⟨j + 1, _, _, _, _, _, by have := HJ.out; omega, rfl, rfl, by go_num, HS20.out⟩
      · have q0 : W2.cell? ⟨sb, 0, none⟩ = some (.int .i64 5) := (show Blk W2 sb 61 #[.int .i64 5, .int .i64 sl] from HS3.out.get (.tail _ (.tail _ (.head _)))).cell 0
        go_wp2_with fail
        rw [← hsb, ← hW2]
        clear hW2 hsb c0 c1
        obtain ⟨ce, hce⟩ : ∃ ce, chgE loadB 2 T sl = ce := ⟨_, rfl⟩
        obtain ⟨STA, hSTA⟩ : ∃ STA : World → Prop, STA = fun X => Sep w.heap.size w X [tabOb g p r T, rtabOb g' b r T, blkOb sb 61 #[.int .i64 5, .int .i64 sl]] := ⟨_, rfl⟩
        obtain ⟨STB, hSTB⟩ : ∃ STB : World → Prop, STB = fun X => Sep w.heap.size w X [tabOb g p r (chgT loadB 2 T sl), rtabOb g' b r T, blkOb sb 61 #[.int .i64 5, .int .i64 sl]] := ⟨_, rfl⟩
        obtain ⟨STC, hSTC⟩ : ∃ STC : World → Prop, STC = fun X => Sep w.heap.size w X [tabOb g p r (chgT loadB 2 T sl), rtabOb g' b r (chgT loadB 2 T sl), blkOb sb 61 #[.int .i64 5, .int .i64 sl]] := ⟨_, rfl⟩
        have C1 : Hid (∀ X, STA X → Calls Tryd.prog 20 #[.pointer (some ⟨g, 0, none⟩), .int .i64 sl] X fun e X' => e = .returned (.int .i64 ce) ∧ X'.cell? ⟨sb, 1, none⟩ = some (.int .i64 sl) ∧ STB X') := fun X hX => by
          rw [hSTA] at hX
          refine (sep_tload hX HL.out hB sl ce _ hce rfl).mono ?_
          rintro e X' ⟨h1, h2⟩
          exact ⟨h1, (show Blk X' sb 61 #[.int .i64 5, .int .i64 sl] from h2.get (.tail _ (.tail _ (.head _)))).cell 1, by rw [hSTB]; exact h2⟩
        have C2 : Hid (∀ X, STB X → Calls Tryd.prog 35 #[.pointer (some ⟨g', 0, none⟩), .int .i64 sl] X fun e X' => e = .returned (.int .i64 ce) ∧ X'.cell? ⟨sb, 1, none⟩ = some (.int .i64 sl) ∧ STC X') := fun X hX => by
          rw [hSTB] at hX
          refine (rtload hX.rtab sl).mono ?_
          rintro e X' ⟨h1, h2⟩
          rw [hce] at h1
          have h3 := hX.rtabTo h2
          exact ⟨h1, (show Blk X' sb 61 #[.int .i64 5, .int .i64 sl] from h3.get (.tail _ (.tail _ (.head _)))).cell 1, by rw [hSTC]; exact h3⟩
        have sta : STA W2.drew := by rw [hSTA]; exact HS3.out.drew
        have q1 : W2.cell? ⟨sb, 1, none⟩ = some (.int .i64 sl) := (show Blk W2 sb 61 #[.int .i64 5, .int .i64 sl] from HS3.out.get (.tail _ (.tail _ (.head _)))).cell 1
        have HSTC := Lib.hid hSTC
        clear hSTA hSTB hSTC hce q0
        go_region_held3 (fun X' => X'.cell? ⟨sb, 1, none⟩ = some (.int .i64 sl)) (first | assumption | go_keep)
          (first
            | (go_at_call 20; refine (C1.out _ (by assumption)).mono ?_; rintro e w3 ⟨rfl, q3, stb⟩)
            | (go_at_call 35; refine (C2.out _ (by assumption)).mono ?_; rintro e w4 ⟨rfl, q4, stc⟩))
        rw [HSTC.out] at stc
        have HS5 := Lib.hid stc
        clear sta stb stc q1 C1 C2
        have q1 : w4.cell? ⟨sb, 1, none⟩ = some (.int .i64 sl) := (show Blk w4 sb 61 #[.int .i64 5, .int .i64 sl] from HS5.out.get (.tail _ (.tail _ (.head _)))).cell 1
        go_wp2_with fail
        refine (alike_any HS5.out.table HS5.out.rtab (HS5.out.laid HL.out hB).tab sl st).mono ?_
        rintro e w20 ⟨rfl, hb⟩
        have HS20 := Lib.hid ((HS5.out.below hb).sub (.cons_cons _ (.cons_cons _ (.cons _ .slnil))))
        clear hb q1
        go_wp2_with fail
        go_roundg (gk - 1)
        case measure => have := HJ.out; omega
        case rel => exact ⟨j + 1, _, _, _, _, _, by have := HJ.out; omega, rfl, rfl, by go_num, HS20.out⟩
      · have q0 : W2.cell? ⟨sb, 0, none⟩ = some (.int .i64 6) := (show Blk W2 sb 61 #[.int .i64 6, .int .i64 sl] from HS3.out.get (.tail _ (.tail _ (.head _)))).cell 0
        go_wp2_with fail
        rw [← hsb, ← hW2]
        clear hW2 hsb c0 c1
        refine (sep_tcopy HS3.out HS3.out.table).mono ?_
        rintro e w3 ⟨g2, p2, rfl, hs⟩
        have HS4 := Lib.hid hs
        have HRT : Hid (RTab w3 g' b r T) := hs.get (.tail _ (.tail _ (.head _)))
        clear hs
        go_wp2_with fail
        refine (rtcopy HRT.out).mono ?_
        rintro e w4 ⟨g3, b3, rfl, k1, k2, k3⟩
        have HS5 : Hid (Sep w.heap.size w w4 [tabOb g2 p2 r T, rtabOb g3 b3 r T, blkOb sb 61 #[.int .i64 6, .int .i64 sl]]) := ((HS4.out.add (a := rtabOb g3 b3 r T) k3 k1 k2).sub (.cons_cons _ (.cons_cons _ (.cons _ (.cons _ (List.Sublist.refl _)))))).perm (List.Perm.swap _ _ _)
        clear k1 k2 k3
        have q1 : w4.cell? ⟨sb, 1, none⟩ = some (.int .i64 sl) := (show Blk w4 sb 61 #[.int .i64 6, .int .i64 sl] from HS5.out.get (.tail _ (.tail _ (.head _)))).cell 1
        go_wp2_with fail
        refine (alike_any HS5.out.table HS5.out.rtab (HS5.out.laid HL.out hB).tab sl st).mono ?_
        rintro e w20 ⟨rfl, hb⟩
        have HS20 := Lib.hid ((HS5.out.below hb).sub (.cons_cons _ (.cons_cons _ (.cons _ .slnil))))
        clear hb q1
        go_wp2_with fail
        go_roundg (gk - 1)
        case measure => have := HJ.out; omega
        case rel => exact ⟨j + 1, _, _, _, _, _, by have := HJ.out; omega, rfl, rfl, by go_num, HS20.out⟩
      · have q0 : W2.cell? ⟨sb, 0, none⟩ = some (.int .i64 d) := (show Blk W2 sb 61 #[.int .i64 d, .int .i64 sl] from HS3.out.get (.tail _ (.tail _ (.head _)))).cell 0
        obtain ⟨x0, x1, x2, x3, x4, x5, x6⟩ := hcs
        go_wp2_with fail
        rw [← hsb, ← hW2]
        clear hW2 hsb c0 c1
        have q1 : W2.cell? ⟨sb, 1, none⟩ = some (.int .i64 sl) := (show Blk W2 sb 61 #[.int .i64 d, .int .i64 sl] from HS3.out.get (.tail _ (.tail _ (.head _)))).cell 1
        go_wp2_with fail
        refine (alike_any HS3.out.table HS3.out.rtab (HS3.out.laid HL.out hB).tab sl st).mono ?_
        rintro e w20 ⟨rfl, hb⟩
        have HS20 := Lib.hid ((HS3.out.below hb).sub (.cons_cons _ (.cons_cons _ (.cons _ .slnil))))
        clear hb q1
        go_wp2_with fail
        go_roundg (gk - 1)
        case measure => have := HJ.out; omega
        case rel => exact ⟨j + 1, _, _, _, _, _, by have := HJ.out; omega, rfl, rfl, by go_num, HS20.out⟩
    · clear hj hs
      go_wp2_with fail
      refine (works_any _ (HS.out.laid HL.out hB)).mono ?_
      rintro e w17 ⟨rfl, hb⟩
      have HB17 := Lib.hid hb
      clear hb
      go_wp2_with fail
      go_ret
      exact ⟨rfl, (HS.out.below HB17.out).bel⟩
set_option maxHeartbeats 16000000 in
set_option maxRecDepth 100000 in
theorem SlotsPlays_no (A : Option Addr) (m c : Nat) (ts : Nat → PStep) (st : Int) (w : World) (hl : LaidIn w) (hr : PStepsAt w w.heap.size A m ts) (hn : m ≤ c) (hc : c ≤ maxLen) (n r : Int) (hbad : n < 1 ∨ 32 < n ∨ r < 0 ∨ n < r) :
    Calls Tryd.prog 9 #[.int .i64 n, .int .i64 r, .slice A m c, .int .i64 st] w fun e w' => e = .returned (.bool true) ∧ Below w.heap.size w w' := by
  have HR := Lib.hid hr
  have HL := Lib.hid hl
  have hB := hl.big
  unfold maxLen at hc
  clear hr hl
  by_cases hm : 150 < m
  · go_enter Tryd.func9, Tryd.ntmps9
    go_wp2_with fail
    refine (works_any _ HL.out).mono ?_
    rintro e w9 ⟨rfl, hb⟩
    have HB := Lib.hid hb
    clear hb
    go_wp2_with fail
    go_ret
    exact ⟨rfl, HB.out⟩
  go_enter Tryd.func9, Tryd.ntmps9
  go_wp2_with fail
  refine (tnew_bad n r w hbad).mono ?_
  rintro e w' ⟨rfl, rfl⟩
  go_wp2_with fail
  refine (rtnew_bad n r w hbad).mono ?_
  rintro e w' ⟨rfl, rfl⟩
  have HN : Hid (∀ X, NoTab X none) := fun X => .inl rfl
  clear hbad
  go_wp2_with fail
  go_loopg [9, 11, 13] m (fun q v9 v11 v13 wr => ∃ (j : Nat), j + q = m ∧ v9 = .pointer none ∧ v11 = .pointer none ∧ v13 = .int .i64 j ∧ Sep w.heap.size w wr [])
  case atStart => exact ⟨0, by omega, rfl, rfl, rfl, Sep.start w⟩
  case round =>
    obtain ⟨j, hj, rfl, rfl, rfl, hs⟩ := hrel
    have HJ := Lib.hid hj
    have hj' : j ≤ m := by omega
    have HS := Lib.hid hs
    by_cases hlt : j < m
    · obtain ⟨ad, ht⟩ := HR.out.below hs.bel j hlt
      obtain rfl := ht.a
      have c0 := ht.c0
      have c1 := ht.c1
      obtain ⟨d, hd⟩ : ∃ d, (ts j).d = d := ⟨_, rfl⟩
      obtain ⟨sl, hsl⟩ : ∃ sl, (ts j).sl = sl := ⟨_, rfl⟩
      rw [hd] at c0
      rw [hsl] at c1
      have hcs : d = 0 ∨ d = 1 ∨ d = 2 ∨ d = 3 ∨ d = 4 ∨ d = 5 ∨ d = 6 ∨ ((d == 0) = false ∧ (d == 1) = false ∧ (d == 2) = false ∧ (d == 3) = false ∧ (d == 4) = false ∧ (d == 5) = false ∧ (d == 6) = false) := by
        simp only [beq_eq_false_iff_ne]
        omega
      clear hj hs ht hd hsl
      obtain ⟨W2, hW2⟩ : ∃ W2, W2 = wr.alloc (.cells #[.int .i64 d, .int .i64 sl] 61) := ⟨_, rfl⟩
      obtain ⟨sb, hsb⟩ : ∃ sb, sb = wr.heap.size := ⟨_, rfl⟩
      have HS3 : Hid (Sep w.heap.size w W2 [blkOb sb 61 #[.int .i64 d, .int .i64 sl]]) := by
        rw [hW2, hsb]
        exact HS.out.newBlk wr.heap.size _ _ rfl
      rcases hcs with rfl | rfl | rfl | rfl | rfl | rfl | rfl | hcs
      · have q0 : W2.cell? ⟨sb, 0, none⟩ = some (.int .i64 0) := (show Blk W2 sb 61 #[.int .i64 0, .int .i64 sl] from HS3.out.get (.head _)).cell 0
        go_wp2_with fail
        rw [← hsb, ← hW2]
        clear hW2 hsb c0 c1
        refine (noactive (HN.out _)).mono ?_
        rintro e w' ⟨rfl, rfl⟩
        go_wp2_with fail
        refine (rnoactive _).mono ?_
        rintro e w' ⟨rfl, rfl⟩
        have q1 : W2.cell? ⟨sb, 1, none⟩ = some (.int .i64 sl) := (show Blk W2 sb 61 #[.int .i64 0, .int .i64 sl] from HS3.out.get (.head _)).cell 1
        go_wp2_with fail
        refine (alike_none _ sl st).mono ?_
        rintro e w20 ⟨rfl, hb⟩
        have HS20 := Lib.hid ((HS3.out.below hb).sub (.cons _ .slnil))
        clear hb q1
        go_wp2_with fail
        go_roundg (gk - 1)
        case measure => have := HJ.out; omega
        case rel => exact ⟨j + 1, by have := HJ.out; omega, rfl, rfl, by go_num, HS20.out⟩
      · have q0 : W2.cell? ⟨sb, 0, none⟩ = some (.int .i64 1) := (show Blk W2 sb 61 #[.int .i64 1, .int .i64 sl] from HS3.out.get (.head _)).cell 0
        go_wp2_with fail
        rw [← hsb, ← hW2]
        clear hW2 hsb c0 c1
        refine (nooutput (HN.out _)).mono ?_
        rintro e w' ⟨rfl, rfl⟩
        go_wp2_with fail
        refine (rnooutput _).mono ?_
        rintro e w' ⟨rfl, rfl⟩
        have q1 : W2.cell? ⟨sb, 1, none⟩ = some (.int .i64 sl) := (show Blk W2 sb 61 #[.int .i64 1, .int .i64 sl] from HS3.out.get (.head _)).cell 1
        go_wp2_with fail
        refine (alike_none _ sl st).mono ?_
        rintro e w20 ⟨rfl, hb⟩
        have HS20 := Lib.hid ((HS3.out.below hb).sub (.cons _ .slnil))
        clear hb q1
        go_wp2_with fail
        go_roundg (gk - 1)
        case measure => have := HJ.out; omega
        case rel => exact ⟨j + 1, by have := HJ.out; omega, rfl, rfl, by go_num, HS20.out⟩
      · have q0 : W2.cell? ⟨sb, 0, none⟩ = some (.int .i64 2) := (show Blk W2 sb 61 #[.int .i64 2, .int .i64 sl] from HS3.out.get (.head _)).cell 0
        go_wp2_with fail
        rw [← hsb, ← hW2]
        clear hW2 hsb c0 c1
        have sta : Sep w.heap.size w W2.drew [blkOb sb 61 #[.int .i64 2, .int .i64 sl]] := HS3.out.drew
        have C1 : Hid (∀ X, Sep w.heap.size w X [blkOb sb 61 #[.int .i64 2, .int .i64 sl]] → Calls Tryd.prog 17 #[.pointer none, .int .i64 sl] X fun e X' => e = .returned (.int .i64 1) ∧ X'.cell? ⟨sb, 1, none⟩ = some (.int .i64 sl) ∧ Sep w.heap.size w X' [blkOb sb 61 #[.int .i64 2, .int .i64 sl]]) := fun X hX => by
          refine (noseal (HN.out _) (hX.laid HL.out hB) sl).mono ?_
          rintro e X' ⟨h1, h2⟩
          have h3 := hX.below h2
          exact ⟨h1, (show Blk X' sb 61 #[.int .i64 2, .int .i64 sl] from h3.get (.head _)).cell 1, h3⟩
        have q1 : W2.cell? ⟨sb, 1, none⟩ = some (.int .i64 sl) := (show Blk W2 sb 61 #[.int .i64 2, .int .i64 sl] from HS3.out.get (.head _)).cell 1
        have C2 : Hid (∀ X, Calls Tryd.prog 32 #[.pointer none, .int .i64 sl] X fun e X' => e = .returned (.int .i64 1) ∧ X = X') := fun X => rnoseal X sl
        clear q0
        go_region_held3 (fun X' => X'.cell? ⟨sb, 1, none⟩ = some (.int .i64 sl)) (first | assumption | go_keep)
          (first
            | (go_at_call 17; refine (C1.out _ (by assumption)).mono ?_; rintro e w3 ⟨rfl, q3, stb⟩)
            | (go_at_call 32; refine (C2.out _).mono ?_; rintro e w4 ⟨rfl, rfl⟩))
        have HS5 := Lib.hid stb
        clear sta stb q1 C1 C2
        have q1 : w3.cell? ⟨sb, 1, none⟩ = some (.int .i64 sl) := (show Blk w3 sb 61 #[.int .i64 2, .int .i64 sl] from HS5.out.get (.head _)).cell 1
        go_wp2_with fail
        refine (alike_none _ sl st).mono ?_
        rintro e w20 ⟨rfl, hb⟩
        have HS20 := Lib.hid ((HS5.out.below hb).sub (.cons _ .slnil))
        clear hb q1
        go_wp2_with fail
        go_roundg (gk - 1)
        case measure => have := HJ.out; omega
        case rel => exact ⟨j + 1, by have := HJ.out; omega, rfl, rfl, by go_num, HS20.out⟩
      · have q0 : W2.cell? ⟨sb, 0, none⟩ = some (.int .i64 3) := (show Blk W2 sb 61 #[.int .i64 3, .int .i64 sl] from HS3.out.get (.head _)).cell 0
        go_wp2_with fail
        rw [← hsb, ← hW2]
        clear hW2 hsb c0 c1
        have sta : Sep w.heap.size w W2.drew [blkOb sb 61 #[.int .i64 3, .int .i64 sl]] := HS3.out.drew
        have C1 : Hid (∀ X, Sep w.heap.size w X [blkOb sb 61 #[.int .i64 3, .int .i64 sl]] → Calls Tryd.prog 18 #[.pointer none, .int .i64 sl] X fun e X' => e = .returned (.int .i64 1) ∧ X'.cell? ⟨sb, 1, none⟩ = some (.int .i64 sl) ∧ Sep w.heap.size w X' [blkOb sb 61 #[.int .i64 3, .int .i64 sl]]) := fun X hX => by
          refine (nochoose (HN.out _) (hX.laid HL.out hB) sl).mono ?_
          rintro e X' ⟨h1, h2⟩
          have h3 := hX.below h2
          exact ⟨h1, (show Blk X' sb 61 #[.int .i64 3, .int .i64 sl] from h3.get (.head _)).cell 1, h3⟩
        have q1 : W2.cell? ⟨sb, 1, none⟩ = some (.int .i64 sl) := (show Blk W2 sb 61 #[.int .i64 3, .int .i64 sl] from HS3.out.get (.head _)).cell 1
        have C2 : Hid (∀ X, Calls Tryd.prog 33 #[.pointer none, .int .i64 sl] X fun e X' => e = .returned (.int .i64 1) ∧ X = X') := fun X => rnochoose X sl
        clear q0
        go_region_held3 (fun X' => X'.cell? ⟨sb, 1, none⟩ = some (.int .i64 sl)) (first | assumption | go_keep)
          (first
            | (go_at_call 18; refine (C1.out _ (by assumption)).mono ?_; rintro e w3 ⟨rfl, q3, stb⟩)
            | (go_at_call 33; refine (C2.out _).mono ?_; rintro e w4 ⟨rfl, rfl⟩))
        have HS5 := Lib.hid stb
        clear sta stb q1 C1 C2
        have q1 : w3.cell? ⟨sb, 1, none⟩ = some (.int .i64 sl) := (show Blk w3 sb 61 #[.int .i64 3, .int .i64 sl] from HS5.out.get (.head _)).cell 1
        go_wp2_with fail
        refine (alike_none _ sl st).mono ?_
        rintro e w20 ⟨rfl, hb⟩
        have HS20 := Lib.hid ((HS5.out.below hb).sub (.cons _ .slnil))
        clear hb q1
        go_wp2_with fail
        go_roundg (gk - 1)
        case measure => have := HJ.out; omega
        case rel => exact ⟨j + 1, by have := HJ.out; omega, rfl, rfl, by go_num, HS20.out⟩
      · have q0 : W2.cell? ⟨sb, 0, none⟩ = some (.int .i64 4) := (show Blk W2 sb 61 #[.int .i64 4, .int .i64 sl] from HS3.out.get (.head _)).cell 0
        go_wp2_with fail
        rw [← hsb, ← hW2]
        clear hW2 hsb c0 c1
        have sta : Sep w.heap.size w W2.drew [blkOb sb 61 #[.int .i64 4, .int .i64 sl]] := HS3.out.drew
        have C1 : Hid (∀ X, Sep w.heap.size w X [blkOb sb 61 #[.int .i64 4, .int .i64 sl]] → Calls Tryd.prog 19 #[.pointer none, .int .i64 sl] X fun e X' => e = .returned (.int .i64 1) ∧ X'.cell? ⟨sb, 1, none⟩ = some (.int .i64 sl) ∧ Sep w.heap.size w X' [blkOb sb 61 #[.int .i64 4, .int .i64 sl]]) := fun X hX => by
          refine (nodrop (HN.out _) (hX.laid HL.out hB) sl).mono ?_
          rintro e X' ⟨h1, h2⟩
          have h3 := hX.below h2
          exact ⟨h1, (show Blk X' sb 61 #[.int .i64 4, .int .i64 sl] from h3.get (.head _)).cell 1, h3⟩
        have q1 : W2.cell? ⟨sb, 1, none⟩ = some (.int .i64 sl) := (show Blk W2 sb 61 #[.int .i64 4, .int .i64 sl] from HS3.out.get (.head _)).cell 1
        have C2 : Hid (∀ X, Calls Tryd.prog 34 #[.pointer none, .int .i64 sl] X fun e X' => e = .returned (.int .i64 1) ∧ X = X') := fun X => rnodrop X sl
        clear q0
        go_region_held3 (fun X' => X'.cell? ⟨sb, 1, none⟩ = some (.int .i64 sl)) (first | assumption | go_keep)
          (first
            | (go_at_call 19; refine (C1.out _ (by assumption)).mono ?_; rintro e w3 ⟨rfl, q3, stb⟩)
            | (go_at_call 34; refine (C2.out _).mono ?_; rintro e w4 ⟨rfl, rfl⟩))
        have HS5 := Lib.hid stb
        clear sta stb q1 C1 C2
        have q1 : w3.cell? ⟨sb, 1, none⟩ = some (.int .i64 sl) := (show Blk w3 sb 61 #[.int .i64 4, .int .i64 sl] from HS5.out.get (.head _)).cell 1
        go_wp2_with fail
        refine (alike_none _ sl st).mono ?_
        rintro e w20 ⟨rfl, hb⟩
        have HS20 := Lib.hid ((HS5.out.below hb).sub (.cons _ .slnil))
        clear hb q1
        go_wp2_with fail
        go_roundg (gk - 1)
        case measure => have := HJ.out; omega
        case rel => exact ⟨j + 1, by have := HJ.out; omega, rfl, rfl, by go_num, HS20.out⟩
      · have q0 : W2.cell? ⟨sb, 0, none⟩ = some (.int .i64 5) := (show Blk W2 sb 61 #[.int .i64 5, .int .i64 sl] from HS3.out.get (.head _)).cell 0
        go_wp2_with fail
        rw [← hsb, ← hW2]
        clear hW2 hsb c0 c1
        have sta : Sep w.heap.size w W2.drew [blkOb sb 61 #[.int .i64 5, .int .i64 sl]] := HS3.out.drew
        have C1 : Hid (∀ X, Sep w.heap.size w X [blkOb sb 61 #[.int .i64 5, .int .i64 sl]] → Calls Tryd.prog 20 #[.pointer none, .int .i64 sl] X fun e X' => e = .returned (.int .i64 1) ∧ X'.cell? ⟨sb, 1, none⟩ = some (.int .i64 sl) ∧ Sep w.heap.size w X' [blkOb sb 61 #[.int .i64 5, .int .i64 sl]]) := fun X hX => by
          refine (noload (HN.out _) (hX.laid HL.out hB) sl).mono ?_
          rintro e X' ⟨h1, h2⟩
          have h3 := hX.below h2
          exact ⟨h1, (show Blk X' sb 61 #[.int .i64 5, .int .i64 sl] from h3.get (.head _)).cell 1, h3⟩
        have q1 : W2.cell? ⟨sb, 1, none⟩ = some (.int .i64 sl) := (show Blk W2 sb 61 #[.int .i64 5, .int .i64 sl] from HS3.out.get (.head _)).cell 1
        have C2 : Hid (∀ X, Calls Tryd.prog 35 #[.pointer none, .int .i64 sl] X fun e X' => e = .returned (.int .i64 1) ∧ X = X') := fun X => rnoload X sl
        clear q0
        go_region_held3 (fun X' => X'.cell? ⟨sb, 1, none⟩ = some (.int .i64 sl)) (first | assumption | go_keep)
          (first
            | (go_at_call 20; refine (C1.out _ (by assumption)).mono ?_; rintro e w3 ⟨rfl, q3, stb⟩)
            | (go_at_call 35; refine (C2.out _).mono ?_; rintro e w4 ⟨rfl, rfl⟩))
        have HS5 := Lib.hid stb
        clear sta stb q1 C1 C2
        have q1 : w3.cell? ⟨sb, 1, none⟩ = some (.int .i64 sl) := (show Blk w3 sb 61 #[.int .i64 5, .int .i64 sl] from HS5.out.get (.head _)).cell 1
        go_wp2_with fail
        refine (alike_none _ sl st).mono ?_
        rintro e w20 ⟨rfl, hb⟩
        have HS20 := Lib.hid ((HS5.out.below hb).sub (.cons _ .slnil))
        clear hb q1
        go_wp2_with fail
        go_roundg (gk - 1)
        case measure => have := HJ.out; omega
        case rel => exact ⟨j + 1, by have := HJ.out; omega, rfl, rfl, by go_num, HS20.out⟩
      · have q0 : W2.cell? ⟨sb, 0, none⟩ = some (.int .i64 6) := (show Blk W2 sb 61 #[.int .i64 6, .int .i64 sl] from HS3.out.get (.head _)).cell 0
        go_wp2_with fail
        rw [← hsb, ← hW2]
        clear hW2 hsb c0 c1
        refine (nocopy (HN.out _)).mono ?_
        rintro e w' ⟨rfl, rfl⟩
        go_wp2_with fail
        refine (rnocopy _).mono ?_
        rintro e w' ⟨rfl, rfl⟩
        have q1 : W2.cell? ⟨sb, 1, none⟩ = some (.int .i64 sl) := (show Blk W2 sb 61 #[.int .i64 6, .int .i64 sl] from HS3.out.get (.head _)).cell 1
        go_wp2_with fail
        refine (alike_none _ sl st).mono ?_
        rintro e w20 ⟨rfl, hb⟩
        have HS20 := Lib.hid ((HS3.out.below hb).sub (.cons _ .slnil))
        clear hb q1
        go_wp2_with fail
        go_roundg (gk - 1)
        case measure => have := HJ.out; omega
        case rel => exact ⟨j + 1, by have := HJ.out; omega, rfl, rfl, by go_num, HS20.out⟩
      · have q0 : W2.cell? ⟨sb, 0, none⟩ = some (.int .i64 d) := (show Blk W2 sb 61 #[.int .i64 d, .int .i64 sl] from HS3.out.get (.head _)).cell 0
        obtain ⟨x0, x1, x2, x3, x4, x5, x6⟩ := hcs
        go_wp2_with fail
        rw [← hsb, ← hW2]
        clear hW2 hsb c0 c1
        have q1 : W2.cell? ⟨sb, 1, none⟩ = some (.int .i64 sl) := (show Blk W2 sb 61 #[.int .i64 d, .int .i64 sl] from HS3.out.get (.head _)).cell 1
        go_wp2_with fail
        refine (alike_none _ sl st).mono ?_
        rintro e w20 ⟨rfl, hb⟩
        have HS20 := Lib.hid ((HS3.out.below hb).sub (.cons _ .slnil))
        clear hb q1
        go_wp2_with fail
        go_roundg (gk - 1)
        case measure => have := HJ.out; omega
        case rel => exact ⟨j + 1, by have := HJ.out; omega, rfl, rfl, by go_num, HS20.out⟩
    · clear hj hs
      go_wp2_with fail
      refine (works_any _ (HS.out.laid HL.out hB)).mono ?_
      rintro e w17 ⟨rfl, hb⟩
      have HB17 := Lib.hid hb
      clear hb
      go_wp2_with fail
      go_ret
      exact ⟨rfl, (HS.out.below HB17.out).bel⟩
theorem SlotsPlays_walk (v0 v1 v2 v3 : Value) (w : World) (hl : LaidIn w) (h0 : ArgIn Tryd.prog w 3 v0) (h1 : ArgIn Tryd.prog w 3 v1) (h2 : ArgIn Tryd.prog w 56 v2) (h3 : ArgIn Tryd.prog w 3 v3) :
    Calls Tryd.prog 9 #[v0, v1, v2, v3] w fun e w' => e = .returned (.bool true) ∧ Below w.heap.size w w' := by
  obtain ⟨n, rfl, e0⟩ := h0.int (k := .i64) Tryd.underlying3
  obtain ⟨r, rfl, e1⟩ := h1.int (k := .i64) Tryd.underlying3
  obtain ⟨st, rfl, e3⟩ := h3.int (k := .i64) Tryd.underlying3
  obtain ⟨A, m, c, ts, rfl, k1, k2, k3⟩ := psteps_arg h2
  by_cases hbad : n < 1 ∨ 32 < n ∨ r < 0 ∨ n < r
  · exact SlotsPlays_no A m c ts st w hl k3 k1 k2 n r hbad
  · obtain ⟨n', rfl⟩ := Int.eq_ofNat_of_zero_le (show 0 ≤ n by omega)
    obtain ⟨r', rfl⟩ := Int.eq_ofNat_of_zero_le (show 0 ≤ r by omega)
    exact SlotsPlays_ok A m c ts st w hl k3 k1 k2 n' r' (by omega) (by omega) (by omega)
end Go.Proofs.YtalonikiljcpfaaDoor

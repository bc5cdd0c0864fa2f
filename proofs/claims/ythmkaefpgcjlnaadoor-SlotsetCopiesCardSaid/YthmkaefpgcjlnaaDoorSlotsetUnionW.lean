/-
  The walk of the law SlotsetUnion: it returns true and writes nothing that was there. Condition: the library's table holds what its text lists.
-/
import Derived.Test.YthmkaefpgcjlnaaDoorSetHelp
import Derived.Deep.DeepCutAuto
namespace Go.Proofs.YthmkaefpgcjlnaaDoor
open Go.RowKit Go.Shelf
set_option linter.unusedVariables false
/-- Truth values, filled up to j. -/
def vTo (L : List Bool) (j : Nat) : List Bool := L.take j ++ List.replicate (L.length - j) false
theorem vTo_zero (L : List Bool) : vTo L 0 = List.replicate L.length false := by simp [vTo]
theorem vTo_all (L : List Bool) : vTo L L.length = L := by simp [vTo]
theorem vTo_length (L : List Bool) (j : Nat) (h : j ≤ L.length) : (vTo L j).length = L.length := by simp [vTo]; omega
theorem vTo_set (L : List Bool) (j : Nat) (h : j < L.length) : (vTo L j).set j (inL L j) = vTo L (j + 1) := by
  obtain ⟨q, hq⟩ : ∃ q, L.length - j = q + 1 := ⟨L.length - j - 1, by omega⟩
  have hq2 : L.length - (j + 1) = q := by omega
  have hv : inL L j = L[j] := by simp [inL, h]
  simp only [vTo, hq, hq2, hv]
  rw [List.set_append, if_neg (by rw [List.length_take]; omega), List.length_take, show j - min j L.length = 0 by omega, List.take_succ_eq_append_getElem h, List.append_assoc]
  rfl
theorem notL_or {L M : List Bool} (h : L.length = M.length) : notL (orL L M) M = notL L M := by
  apply List.ext_getElem?
  intro i
  unfold notL orL
  simp only [List.getElem?_zipWith]
  by_cases hi : i < L.length
  · rw [List.getElem?_eq_getElem hi, List.getElem?_eq_getElem (show i < M.length by omega)]
    cases L[i] <;> cases M[i]'(by omega) <;> rfl
  · rw [List.getElem?_eq_none (show L.length ≤ i by omega)]
theorem orL_self (L : List Bool) : orL L L = L := by
  apply List.ext_getElem?
  intro i
  unfold orL
  simp only [List.getElem?_zipWith]
  cases L[i]? with
  | none => rfl
  | some v => cases v <;> rfl
theorem slotsOf_no (L : List Bool) : slotsOf (notL L L) = [] := by
  unfold slotsOf
  rw [List.filter_eq_nil_iff]
  intro i _
  rw [inL_not rfl]
  cases inL L i <;> simp
set_option maxHeartbeats 8000000 in
set_option maxRecDepth 100000 in
theorem SlotsetUnion_w (sz : BitVec 8) (A1 A2 : Option Addr) (n1 c1 n2 c2 : Nat) (l1 l2 : List (BitVec 8)) (w : World) (ht : TabIn w) (hr1 : Reads w w.heap.size 1 A1 n1 (u8s l1)) (hr2 : Reads w w.heap.size 1 A2 n2 (u8s l2))
    (hm1 : n1 ≤ maxLen) (hm2 : n2 ≤ maxLen) :
    Calls Tryd.prog 5 #[.int .u8 (n8 sz), .slice A1 n1 c1, .slice A2 n2 c2] w fun e w' => e = .returned (.bool true) ∧ Below w.heap.size w w' := by
  have HT := Lib.hid ht
  have hp := ht.pos
  have HR1 := Lib.hid hr1
  have HR2 := Lib.hid hr2
  unfold maxLen at hm1 hm2
  obtain ⟨hz1, hz2⟩ := n8_bd sz
  clear ht hr1 hr2
  by_cases hlong : 100 < n1 ∨ 100 < n2
  · by_cases h1 : 100 < n1
    · clear hlong
      go_enter Tryd.func5, Tryd.ntmps5
      go_wp2_with fail
      refine (works_any _ HT.out).mono ?_
      rintro e w12 ⟨rfl, hb⟩
      go_wp2
      go_ret
      exact ⟨rfl, hb⟩
    · have h2 : 100 < n2 := by omega
      clear hlong
      go_enter Tryd.func5, Tryd.ntmps5
      go_wp2_with fail
      refine (works_any _ HT.out).mono ?_
      rintro e w12 ⟨rfl, hb⟩
      go_wp2
      go_ret
      exact ⟨rfl, hb⟩
  · have h1 : n1 ≤ 100 := by omega
    have h2 : n2 ≤ 100 := by omega
    clear hlong
    go_enter Tryd.func5, Tryd.ntmps5
    go_wp2_with fail
    refine (sep_filled (Sep.start w) sz _ _ _ l1 HR1.out (by omega)).mono ?_
    rintro e w1 ⟨g, bi, n, L, rfl, hn, hN, hs, hb⟩
    have H := Lib.hid hs
    have HN := Lib.hid hN
    have HL := Lib.hid hn
    have HB := Lib.hid hb
    clear hs hN hn hb
    go_wp2_with fail
    refine (sep_filled H.out sz _ _ _ l2 ((HR2.out.below HB.out).more HB.out.size) (by omega)).mono ?_
    rintro e w2 ⟨g2, bi2, n', M, rfl, hn, hN, hs, hb⟩
    have hnn : n' = n := by have := HN.out; omega
    rw [hnn] at hn hN ⊢
    have H := Lib.hid hs
    have HM := Lib.hid hn
    have HLM : Hid (L.length = M.length) := by show _ = _; rw [← HL.out, ← hn]
    have hlen := hs.len
    have hn34 : n ≤ 34 := by omega
    clear hs hN hn hb hnn hlen
    go_wp2_with fail
    have H : Hid (Sep w.heap.size w w2 [setOb g2 M, setOb g L, bvOb bi2 M, bvOb bi L]) := H.out.perm ((List.Perm.swap _ _ _).cons _)
    refine (sep_union H.out HLM.out (orL L M) rfl).mono ?_
    rintro e w3 ⟨rfl, hs⟩
    have H := Lib.hid hs
    have hmk := make_bools n (by omega)
    clear hs
    have HZ1 : Hid (vTo (orL L M) 0 = List.replicate n false) := by show _ = _; rw [vTo_zero, orL_length HLM.out, ← HL.out]
    have HZ2 : Hid (vTo (notL L M) 0 = List.replicate n false) := by show _ = _; rw [vTo_zero, notL_length HLM.out, ← HL.out]
    have HS : Hid (Sep w.heap.size w ((w3.alloc (.cells (bvals (List.replicate n false)).toArray 4)).alloc (.cells (bvals (List.replicate n false)).toArray 4)).drew [bvOb (w3.heap.size + 1) (List.replicate n false), bvOb w3.heap.size (List.replicate n false), setOb g2 M, setOb g (orL L M), bvOb bi2 M, bvOb bi L]) := by
      have h1 := H.out.add (a := bvOb w3.heap.size (List.replicate n false)) ((Below.refl _ _).alloc (Nat.le_refl _) _) (Blk.new w3 _ _) (fun k hk => by have : k = w3.heap.size := hk; omega)
      have h2 := h1.add (a := bvOb (w3.heap.size + 1) (List.replicate n false)) (w' := (w3.alloc (.cells (bvals (List.replicate n false)).toArray 4)).alloc (.cells (bvals (List.replicate n false)).toArray 4)) ((Below.refl _ _).alloc (Nat.le_refl _) _) (by
        have := Blk.new (w3.alloc (.cells (bvals (List.replicate n false)).toArray 4)) 4 (bvals (List.replicate n false)).toArray
        rw [World.size_alloc] at this
        exact this) (fun k hk => by have : k = w3.heap.size + 1 := hk; simp; omega)
      exact h2.drew
    go_upto_region 7 with fail
    go_cut [11, 12] (fun s11 s12 wx => ∃ (x y : Nat), s11 = .slice (some ⟨x, 0, none⟩) n n ∧ s12 = .slice (some ⟨y, 0, none⟩) n n ∧ Sep w.heap.size w wx [bvOb x (vTo (orL L M) 0), bvOb y (vTo (notL L M) 0), setOb g2 M, setOb g (orL L M), bvOb bi2 M, bvOb bi L])
    case first =>
      go_region
      all_goals
        go_wp2_with fail
        go_meet
        first
          | exact ⟨_, _, rfl, rfl, by rw [HZ1.out, HZ2.out]; exact HS.out⟩
          | exact ⟨_, _, rfl, rfl, by rw [HZ1.out, HZ2.out]; exact HS.out.perm (List.Perm.swap _ _ _)⟩
    case rest =>
      obtain ⟨x, y, rfl, rfl, hs⟩ := hcut
      have H := Lib.hid hs
      clear hs hmk
      go_wp2_with fail
      go_loopg [13] n (fun q v13 wr => ∃ (j : Nat), j + q = n ∧ v13 = .int .i64 j ∧ Sep w.heap.size w wr [bvOb x (vTo (orL L M) j), bvOb y (vTo (notL L M) j), setOb g2 M, setOb g (orL L M), bvOb bi2 M, bvOb bi L])
      case atStart =>
        exact ⟨0, by omega, rfl, H.out⟩
      case round =>
        obtain ⟨j, hj, rfl, hs⟩ := hrel
        have hj' : j ≤ n := by omega
        have HJ := Lib.hid hj
        have H := Lib.hid hs
        clear hj hs
        by_cases hlt : j < n
        · have hX : Blk wr x 4 (bvals (vTo (orL L M) j)).toArray := H.out.get (.head _)
          have hY : Blk wr y 4 (bvals (vTo (notL L M) j)).toArray := H.out.get (.tail _ (.head _))
          have hA : Blk wr bi 4 (bvals L).toArray := H.out.get (.tail _ (.tail _ (.tail _ (.tail _ (.tail _ (.head _))))))
          have hB : Blk wr bi2 4 (bvals M).toArray := H.out.get (.tail _ (.tail _ (.tail _ (.tail _ (.head _)))))
          have lO : (orL L M).length = n := by rw [orL_length HLM.out, ← HL.out]
          have lN : (notL L M).length = n := by rw [notL_length HLM.out, ← HL.out]
          have cx : wr.cell? ⟨x, j, none⟩ = some (.bool (inL (vTo (orL L M) j) j)) := by rw [hX.cell, List.getElem?_toArray, bvals_at (by rw [vTo_length _ _ (by omega)]; omega)]
          have fx := hX.frozen j
          have H2 : Hid (Sep w.heap.size w (wr.setCell ⟨x, j, none⟩ (.bool (inL (orL L M) j))) [bvOb x (vTo (orL L M) (j + 1)), bvOb y (vTo (notL L M) j), setOb g2 M, setOb g (orL L M), bvOb bi2 M, bvOb bi L]) := by
            refine H.out.step (a' := bvOb x (vTo (orL L M) (j + 1))) (Chg.setCell (Chg.refl (bvOb x (vTo (orL L M) j)).F wr) (p := ⟨x, j, none⟩) (.inl rfl) _) ?_ (fun _ h => .inl h)
            have := hX.set_ j (.bool (inL (orL L M) j))
            rw [bvals_set, vTo_set _ _ (by omega)] at this
            exact this
          have hY2 : Blk (wr.setCell ⟨x, j, none⟩ (.bool (inL (orL L M) j))) y 4 (bvals (vTo (notL L M) j)).toArray := H2.out.get (.tail _ (.head _))
          have hA2 : Blk (wr.setCell ⟨x, j, none⟩ (.bool (inL (orL L M) j))) bi 4 (bvals L).toArray := H2.out.get (.tail _ (.tail _ (.tail _ (.tail _ (.tail _ (.head _))))))
          have hB2 : Blk (wr.setCell ⟨x, j, none⟩ (.bool (inL (orL L M) j))) bi2 4 (bvals M).toArray := H2.out.get (.tail _ (.tail _ (.tail _ (.tail _ (.head _)))))
          have H3 : Hid (Sep w.heap.size w ((wr.setCell ⟨x, j, none⟩ (.bool (inL (orL L M) j))).setCell ⟨y, j, none⟩ (.bool (inL (notL L M) j))) [bvOb x (vTo (orL L M) (j + 1)), bvOb y (vTo (notL L M) (j + 1)), setOb g2 M, setOb g (orL L M), bvOb bi2 M, bvOb bi L]) := by
            refine H2.out.step1 (a' := bvOb y (vTo (notL L M) (j + 1))) (Chg.setCell (Chg.refl (bvOb y (vTo (notL L M) j)).F _) (p := ⟨y, j, none⟩) (.inl rfl) _) ?_ (fun _ h => .inl h)
            have := hY2.set_ j (.bool (inL (notL L M) j))
            rw [bvals_set, vTo_set _ _ (by omega)] at this
            exact this
          rw [inL_or HLM.out, inL_not HLM.out] at H3
          rw [inL_or HLM.out] at H2 hY2 hA2 hB2
          have ca : wr.cell? ⟨bi, j, none⟩ = some (.bool (inL L j)) := by rw [hA.cell, List.getElem?_toArray, bvals_at (by rw [← HL.out]; omega)]
          have cb : wr.cell? ⟨bi2, j, none⟩ = some (.bool (inL M j)) := by rw [hB.cell, List.getElem?_toArray, bvals_at (by rw [← HM.out]; omega)]
          have ca2 : (wr.setCell ⟨x, j, none⟩ (.bool (inL L j || inL M j))).cell? ⟨bi, j, none⟩ = some (.bool (inL L j)) := by rw [hA2.cell, List.getElem?_toArray, bvals_at (by rw [← HL.out]; omega)]
          have cb2 : (wr.setCell ⟨x, j, none⟩ (.bool (inL L j || inL M j))).cell? ⟨bi2, j, none⟩ = some (.bool (inL M j)) := by rw [hB2.cell, List.getElem?_toArray, bvals_at (by rw [← HM.out]; omega)]
          have cy2 : (wr.setCell ⟨x, j, none⟩ (.bool (inL L j || inL M j))).cell? ⟨y, j, none⟩ = some (.bool (inL (vTo (notL L M) j) j)) := by rw [hY2.cell, List.getElem?_toArray, bvals_at (by rw [vTo_length _ _ (by omega)]; omega)]
          have fy2 := hY2.frozen j
          generalize inL L j = va at ca ca2 cb2 cy2 fy2 H2 H3 hY2 hA2 hB2
          generalize inL M j = vb at cb ca2 cb2 cy2 fy2 H2 H3 hY2 hA2 hB2
          clear hX hY hA hB hY2 hA2 hB2 lO lN
          cases va <;> cases vb
          all_goals
            simp only [Bool.or_false, Bool.or_true, Bool.and_false, Bool.and_true, Bool.not_true, Bool.not_false] at ca2 cb2 cy2 fy2 H2 H3
            go_wp2_with fail
            go_roundg (gk - 1)
            case measure => have := HJ.out; omega
            case rel => exact ⟨j + 1, by have := HJ.out; omega, by go_num, H3.out⟩
        · have e8 : j = n := by omega
          subst e8
          have hxl : (orL L M).length = j := by rw [orL_length HLM.out, ← HL.out]
          have hyl : (notL L M).length = j := by rw [notL_length HLM.out, ← HL.out]
          have H : Hid (Sep w.heap.size w wr [bvOb x (orL L M), bvOb y (notL L M), setOb g2 M, setOb g (orL L M), bvOb bi2 M, bvOb bi L]) := by
            have h := H.out
            have e1 : vTo (orL L M) j = orL L M := by rw [← hxl]; exact vTo_all _
            have e2 : vTo (notL L M) j = notL L M := by rw [← hyl]; exact vTo_all _
            rw [e1, e2] at h
            exact h
          have HXL := Lib.hid hxl
          have HYL := Lib.hid hyl
          clear hxl hyl
          go_wp2_with fail
          refine (sep_slots H.out _ j j (by rw [HXL.out]; omega) (bv_reads (H.out.get (.head _)) j HXL.out.symm) _ rfl).mono ?_
          rintro e w4 ⟨A5, c5, rfl, hs, hb, hr⟩
          have H := Lib.hid hs
          have HR := Lib.hid hr
          clear hs hb hr
          go_wp2_with fail
          refine (sep_same H.out (show HasSet w4 g (orL L M) from H.out.get (.tail _ (.tail _ (.tail _ (.head _))))) _ _ _ _ rfl HR.out).mono ?_
          rintro e w5 ⟨rfl, hs, hb⟩
          have H : Hid (Sep w.heap.size w w5 [setOb g2 M, setOb g (orL L M), bvOb bi2 M, bvOb bi L, bvOb x (orL L M), bvOb y (notL L M)]) := hs.perm (List.perm_append_comm (l₁ := [bvOb x (orL L M), bvOb y (notL L M)]) (l₂ := [setOb g2 M, setOb g (orL L M), bvOb bi2 M, bvOb bi L]))
          clear hs hb HR
          go_wp2_with fail
          refine (sep_minus H.out (by rw [orL_length HLM.out]; exact HLM.out) (notL L M) (notL_or HLM.out)).mono ?_
          rintro e w6 ⟨rfl, hs⟩
          have H := Lib.hid hs
          clear hs
          go_wp2_with fail
          refine (sep_slots H.out _ j j (by rw [HYL.out]; omega) (bv_reads (H.out.get (.tail _ (.tail _ (.tail _ (.tail _ (.tail _ (.head _))))))) j HYL.out.symm) _ rfl).mono ?_
          rintro e w7 ⟨A6, c6, rfl, hs, hb, hr⟩
          have H := Lib.hid hs
          have HR := Lib.hid hr
          clear hs hb hr
          go_wp2_with fail
          refine (sep_same H.out (show HasSet w7 g (notL L M) from H.out.get (.tail _ (.head _))) _ _ _ _ rfl HR.out).mono ?_
          rintro e w8 ⟨rfl, hs, hb⟩
          have H := Lib.hid hs
          clear hs hb HR
          go_wp2_with fail
          refine (sep_slots H.out _ j j (by rw [← HM.out]; omega) (bv_reads (H.out.get (.tail _ (.tail _ (.head _)))) j HM.out) _ rfl).mono ?_
          rintro e w9 ⟨A7, c7, rfl, hs, hb, hr⟩
          have H := Lib.hid hs
          have HR := Lib.hid hr
          clear hs hb hr
          go_wp2_with fail
          refine (sep_same H.out H.out.set _ _ _ _ rfl HR.out).mono ?_
          rintro e w10 ⟨rfl, hs, hb⟩
          have H := Lib.hid hs
          clear hs hb HR
          go_wp2_with fail
          refine (union_of H.out.set H.out.set rfl).mono ?_
          rw [orL_self]
          rintro e w11 ⟨rfl, hs, hch⟩
          have H : Hid (Sep w.heap.size w w11 [setOb g2 M, setOb g (notL L M), bvOb bi2 M, bvOb bi L, bvOb x (orL L M), bvOb y (notL L M)]) := H.out.step (a' := setOb g2 M) hch hs (fun _ h => .inl h)
          clear hs hch
          go_wp2_with fail
          refine (sep_slots H.out _ j j (by rw [← HM.out]; omega) (bv_reads (H.out.get (.tail _ (.tail _ (.head _)))) j HM.out) _ rfl).mono ?_
          rintro e w12 ⟨A8, c8, rfl, hs, hb, hr⟩
          have H := Lib.hid hs
          have HR := Lib.hid hr
          clear hs hb hr
          go_wp2_with fail
          refine (sep_same H.out H.out.set _ _ _ _ rfl HR.out).mono ?_
          rintro e w13 ⟨rfl, hs, hb⟩
          have H := Lib.hid hs
          clear hs hb HR
          go_wp2_with fail
          refine (minus_of H.out.set H.out.set rfl).mono ?_
          rintro e w14 ⟨rfl, hs, hch⟩
          have H : Hid (Sep w.heap.size w w14 [setOb g2 (notL M M), setOb g (notL L M), bvOb bi2 M, bvOb bi L, bvOb x (orL L M), bvOb y (notL L M)]) := H.out.step (a' := setOb g2 (notL M M)) hch hs (fun _ h => .inl h)
          clear hs hch
          go_wp2_with fail
          refine (len_of H.out.set).mono ?_
          rw [slotsOf_no]
          rintro e w' ⟨rfl, rfl⟩
          go_wp2_with fail
          refine (works_any _ (H.out.tab HT.out hp)).mono ?_
          rintro e w15 ⟨rfl, hb⟩
          go_wp2
          go_ret
          exact ⟨rfl, bt H.out.bel hb⟩
theorem SlotsetUnion_walk (v0 v1 v2 : Value) (w : World) (ht : TabIn w) (h0 : ArgIn Tryd.prog w 5 v0) (h1 : ArgIn Tryd.prog w 22 v1) (h2 : ArgIn Tryd.prog w 22 v2) :
    Calls Tryd.prog 5 #[v0, v1, v2] w fun e w' => e = .returned (.bool true) ∧ Below w.heap.size w w' := by
  obtain ⟨n, rfl, w2⟩ := h0.int Tryd.underlying5
  obtain ⟨b, rfl⟩ := u8_of_wf w2
  obtain ⟨A1, n1, c1, l1, rfl, _, hm1, hr1⟩ := h1.bytes
  obtain ⟨A2, n2, c2, l2, rfl, _, hm2, hr2⟩ := h2.bytes
  exact SlotsetUnion_w b A1 A2 n1 c1 n2 c2 l1 l2 w ht hr1 hr2 hm1 hm2
end Go.Proofs.YthmkaefpgcjlnaaDoor

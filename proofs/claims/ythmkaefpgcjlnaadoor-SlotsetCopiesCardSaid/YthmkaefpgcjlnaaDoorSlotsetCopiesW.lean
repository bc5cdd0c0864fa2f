/-
  The walk of the law SlotsetCopies: it returns true and writes nothing that was there. Condition: the library's table holds what its text lists.
-/
import Derived.Test.YthmkaefpgcjlnaaDoorSlotsetUnionW
namespace Go.Proofs.YthmkaefpgcjlnaaDoor
open Go.RowKit Go.Shelf
set_option linter.unusedVariables false
set_option maxHeartbeats 4000000 in
set_option maxRecDepth 100000 in
theorem SlotsetCopies_w (sz : BitVec 8) (A1 A2 : Option Addr) (n1 c1 n2 c2 : Nat) (l1 l2 : List (BitVec 8)) (w : World) (ht : TabIn w) (hr1 : Reads w w.heap.size 1 A1 n1 (u8s l1)) (hr2 : Reads w w.heap.size 1 A2 n2 (u8s l2))
    (hm1 : n1 ≤ maxLen) (hm2 : n2 ≤ maxLen) (hl2 : n2 = l2.length) :
    Calls Tryd.prog 11 #[.int .u8 (n8 sz), .slice A1 n1 c1, .slice A2 n2 c2] w fun e w' => e = .returned (.bool true) ∧ Below w.heap.size w w' := by
  have HT := Lib.hid ht
  have hp := ht.pos
  have HR1 := Lib.hid hr1
  have HR2 := Lib.hid hr2
  have HL2 := Lib.hid hl2
  unfold maxLen at hm1 hm2
  obtain ⟨hz1, hz2⟩ := n8_bd sz
  clear ht hr1 hr2 hl2
  by_cases hlong : 100 < n1 ∨ 40 < n2
  · by_cases h1 : 100 < n1
    · clear hlong
      go_enter Tryd.func11, Tryd.ntmps11
      go_wp2_with fail
      refine (works_any _ HT.out).mono ?_
      rintro e w12 ⟨rfl, hb⟩
      go_wp2
      go_ret
      exact ⟨rfl, hb⟩
    · have h2 : 40 < n2 := by omega
      clear hlong
      go_enter Tryd.func11, Tryd.ntmps11
      go_wp2_with fail
      refine (works_any _ HT.out).mono ?_
      rintro e w12 ⟨rfl, hb⟩
      go_wp2
      go_ret
      exact ⟨rfl, hb⟩
  · have h1 : n1 ≤ 100 := by omega
    have h2 : n2 ≤ 40 := by omega
    clear hlong
    go_enter Tryd.func11, Tryd.ntmps11
    go_wp2_with fail
    refine (sep_filled (Sep.start w) sz _ _ _ l1 HR1.out (by omega)).mono ?_
    rintro e w1 ⟨g, bi, n, L, rfl, hn, hN, hs, hb⟩
    have H := Lib.hid hs
    have HL := Lib.hid hn
    have hlen := hs.len
    have hn34 : n ≤ 34 := by omega
    have hn1 : 1 ≤ n := by omega
    clear hs hN hb hlen hn
    go_wp2_with fail
    refine (sep_copy H.out H.out.set).mono ?_
    rintro e w2 ⟨g2, rfl, hs⟩
    have H := Lib.hid hs
    clear hs
    have hsz := size_of H.out.set
    rw [← HL.out] at hsz
    have HSZ := Lib.hid hsz
    clear hsz
    go_wp2_with fail
    refine HSZ.out.mono ?_
    rintro e w' ⟨rfl, rfl⟩
    go_wp2_with fail
    go_loopg [10, 11] n2 (fun q v10 v11 wr => ∃ (j : Nat) (M : List Bool), j + q = n2 ∧ v10 = .int .i64 j ∧ M.length = n ∧ Sep w.heap.size w wr [setOb g2 M, setOb g L, bvOb bi L])
    case atStart => exact ⟨0, L, by omega, rfl, HL.out.symm, H.out⟩
    case round =>
      obtain ⟨j, M, hj, rfl, hM, hs⟩ := hrel
      have hj' : j ≤ n2 := by omega
      have HJ := Lib.hid hj
      have HM := Lib.hid hM
      have H := Lib.hid hs
      by_cases hlt : j < n2
      · have hjl : j < l2.length := by rw [← HL2.out]; exact hlt
        obtain ⟨ad, u, rfl, hab, hx, hc⟩ := (HR2.out.below hs.bel).at_ hlt
        rw [u8s_get hjl] at hx
        simp only [Option.some.injEq] at hx
        subst hx
        obtain ⟨b, hb⟩ : ∃ b, l2[j] = b := ⟨_, rfl⟩
        rw [hb] at hc
        obtain ⟨hb1, hb2⟩ := n8_bd b
        obtain ⟨k, hk⟩ : ∃ k : Nat, n8 b % (n : Int) = (k : Int) := ⟨(n8 b % (n : Int)).toNat, by have := Int.emod_nonneg (n8 b) (show (n : Int) ≠ 0 by omega); omega⟩
        have hkn : k < n := by have := Int.emod_lt_of_pos (n8 b) (show (0 : Int) < (n : Int) by omega); omega
        clear hj hs hb hM
        have hh := has_of H.out.set k (by rw [HM.out]; exact hkn)
        have HH := Lib.hid hh
        clear hh
        generalize inL M k = v at HH
        go_wp2_with fail
        refine HH.out.mono ?_
        clear HH
        rintro e w' ⟨rfl, rfl⟩
        cases v
        · go_wp2_with fail
          refine (add_of H.out.set k (by rw [HM.out]; exact hkn)).mono ?_
          rintro e w3 ⟨rfl, hs, hch⟩
          have H3 : Hid (Sep w.heap.size w w3 [setOb g2 (M.set k true), setOb g L, bvOb bi L]) := H.out.step (a' := setOb g2 (M.set k true)) hch hs (fun _ h => .inl h)
          clear hs hch hc hk
          go_wp2_with fail
          go_roundg (gk - 1)
          case measure => have := HJ.out; omega
          case rel => exact ⟨j + 1, _, by have := HJ.out; omega, by go_num, by rw [List.length_set]; exact HM.out, H3.out⟩
        · go_wp2_with fail
          refine (remove_of H.out.set k (by rw [HM.out]; exact hkn)).mono ?_
          rintro e w3 ⟨rfl, hs, hch⟩
          have H3 : Hid (Sep w.heap.size w w3 [setOb g2 (M.set k false), setOb g L, bvOb bi L]) := H.out.step (a' := setOb g2 (M.set k false)) hch hs (fun _ h => .inl h)
          clear hs hch hc hk
          go_wp2_with fail
          go_roundg (gk - 1)
          case measure => have := HJ.out; omega
          case rel => exact ⟨j + 1, _, by have := HJ.out; omega, by go_num, by rw [List.length_set]; exact HM.out, H3.out⟩
      · have e8 : j = n2 := by omega
        subst e8
        clear hj hs hM
        have H : Hid (Sep w.heap.size w wr [setOb g L, bvOb bi L]) := H.out.sub (List.sublist_cons_self _ _)
        go_wp2_with fail
        refine (sep_slots H.out _ n n (by rw [← HL.out]; omega) (H.out.bv n HL.out) _ rfl).mono ?_
        rintro e w5 ⟨A5, c5, rfl, hs, hb, hr⟩
        have H := Lib.hid hs
        have HR := Lib.hid hr
        clear hs hb hr
        go_wp2_with fail
        refine (sep_same H.out H.out.set _ _ _ _ rfl HR.out).mono ?_
        rintro e w6 ⟨rfl, hs, hb⟩
        have H := Lib.hid hs
        clear hs hb HR
        go_wp2_with fail
        refine (sep_copy H.out H.out.set).mono ?_
        rintro e w7 ⟨g3, rfl, hs⟩
        have H : Hid (Sep w.heap.size w w7 [setOb g L, setOb g3 L, bvOb bi L]) := hs.perm (List.Perm.swap _ _ _)
        clear hs
        go_wp2_with fail
        refine (minus_of H.out.set H.out.set rfl).mono ?_
        rintro e w8 ⟨rfl, hs, hch⟩
        have H : Hid (Sep w.heap.size w w8 [setOb g (notL L L), setOb g3 L, bvOb bi L]) := H.out.step (a' := setOb g (notL L L)) hch hs (fun _ h => .inl h)
        clear hs hch
        go_wp2_with fail
        refine (sep_slots H.out _ n n (by rw [← HL.out]; omega) (bv_reads (H.out.get (.tail _ (.tail _ (.head _)))) n HL.out) _ rfl).mono ?_
        rintro e w9 ⟨A6, c6, rfl, hs, hb, hr⟩
        have H := Lib.hid hs
        have HR := Lib.hid hr
        clear hs hb hr
        go_wp2_with fail
        refine (sep_same H.out (show HasSet w9 g3 L from H.out.get (.tail _ (.head _))) _ _ _ _ rfl HR.out).mono ?_
        rintro e w10 ⟨rfl, hs, hb⟩
        have H := Lib.hid hs
        clear hs hb HR
        go_wp2_with fail
        refine (len_of H.out.set).mono ?_
        rw [slotsOf_no]
        rintro e w' ⟨rfl, rfl⟩
        go_wp2_with fail
        refine (works_any _ (H.out.tab HT.out hp)).mono ?_
        rintro e w15 ⟨rfl, hb⟩
        go_wp2
        go_ret
        exact ⟨rfl, bt H.out.bel hb⟩
theorem SlotsetCopies_walk (v0 v1 v2 : Value) (w : World) (ht : TabIn w) (h0 : ArgIn Tryd.prog w 5 v0) (h1 : ArgIn Tryd.prog w 22 v1) (h2 : ArgIn Tryd.prog w 22 v2) :
    Calls Tryd.prog 11 #[v0, v1, v2] w fun e w' => e = .returned (.bool true) ∧ Below w.heap.size w w' := by
  obtain ⟨n, rfl, w2⟩ := h0.int Tryd.underlying5
  obtain ⟨b, rfl⟩ := u8_of_wf w2
  obtain ⟨A1, n1, c1, l1, rfl, _, hm1, hr1⟩ := h1.bytes
  obtain ⟨A2, n2, c2, l2, rfl, hl2, hm2, hr2⟩ := h2.bytes
  exact SlotsetCopies_w b A1 A2 n1 c1 n2 c2 l1 l2 w ht hr1 hr2 hm1 hm2 hl2
end Go.Proofs.YthmkaefpgcjlnaaDoor

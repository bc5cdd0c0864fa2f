/-
  The walk of the law SlotsetRefuses: it returns true and writes nothing that was there. Condition: the library's table holds what its text lists.
-/
import Derived.Test.YthmkaefpgcjlnaaDoorSetHelp
namespace Go.Proofs.YthmkaefpgcjlnaaDoor
open Go.RowKit Go.Shelf
set_option linter.unusedVariables false
theorem orL_none (L : List Bool) : orL L (List.replicate L.length false) = L := by
  apply List.ext_getElem?
  intro i
  unfold orL
  simp only [List.getElem?_zipWith, List.getElem?_replicate]
  by_cases h : i < L.length
  · rw [List.getElem?_eq_getElem h, if_pos h]; simp
  · rw [List.getElem?_eq_none (by omega)]
theorem notL_none (L : List Bool) : notL L (List.replicate L.length false) = L := by
  apply List.ext_getElem?
  intro i
  unfold notL
  simp only [List.getElem?_zipWith, List.getElem?_replicate]
  by_cases h : i < L.length
  · rw [List.getElem?_eq_getElem h, if_pos h]; simp
  · rw [List.getElem?_eq_none (by omega)]
set_option maxHeartbeats 4000000 in
set_option maxRecDepth 100000 in
theorem SlotsetRefuses_w (sz : BitVec 8) (far : Int) (hf1 : 0 ≤ far) (hf2 : far < 65536) (A1 : Option Addr) (n1 c1 : Nat) (l1 : List (BitVec 8)) (w : World) (ht : TabIn w) (hr1 : Reads w w.heap.size 1 A1 n1 (u8s l1)) (hm1 : n1 ≤ maxLen) :
    Calls Tryd.prog 6 #[.int .u8 (n8 sz), .slice A1 n1 c1, .int .u16 far] w fun e w' => e = .returned (.bool true) ∧ Below w.heap.size w w' := by
  have HT := Lib.hid ht
  have hp := ht.pos
  have HR1 := Lib.hid hr1
  unfold maxLen at hm1
  obtain ⟨hz1, hz2⟩ := n8_bd sz
  clear ht hr1
  by_cases h1 : 100 < n1
  · go_enter Tryd.func6, Tryd.ntmps6
    go_wp2_with fail
    refine (works_any _ HT.out).mono ?_
    rintro e w12 ⟨rfl, hb⟩
    go_wp2
    go_ret
    exact ⟨rfl, hb⟩
  · go_enter Tryd.func6, Tryd.ntmps6
    go_wp2_with fail
    refine (sep_filled (Sep.start w) sz _ _ _ l1 HR1.out (by omega)).mono ?_
    rintro e w1 ⟨g, bi, n, L, rfl, hn, hN, hs, hb⟩
    have H := Lib.hid hs
    have HL := Lib.hid hn
    have hlen := hs.len
    have hn34 : n ≤ 34 := by omega
    obtain ⟨q, hq⟩ : ∃ q : Nat, 1 + ((n : Int) + far) % 34 = (q : Int) := ⟨(1 + ((n : Int) + far) % 34).toNat, by omega⟩
    have hq1 : 1 ≤ q := by omega
    have hq2 : q ≤ 34 := by omega
    clear hs hN hb hlen hn
    go_wp2_with fail
    refine (sep_set H.out q hq1 hq2 none 0 0 [] Reads.none_ (by omega) (List.replicate q false) rfl).mono ?_
    rintro e w2 ⟨g2, rfl, hs⟩
    have H := Lib.hid hs
    clear hs hq
    go_wp2_with fail
    have hsz := size_of H.out.set
    rw [List.length_replicate] at hsz
    refine hsz.mono ?_
    clear hsz
    rintro e w' ⟨rfl, rfl⟩
    by_cases hqn : q = n
    · subst hqn
      have hd : ((q : Int) != (q : Int)) = false := by simp
      go_wp2_with fail
      refine (new_set_bad (-far) _ (by omega)).mono ?_
      rintro e w' ⟨rfl, rfl⟩
      go_wp2_with fail
      refine (new_set_bad (35 + far) _ (by omega)).mono ?_
      rintro e w' ⟨rfl, rfl⟩
      go_wp2_with fail
      refine (add_out (show HasSet w2 g L from H.out.get (.tail _ (.head _))) (-1 - far) (by omega)).mono ?_
      rintro e w' ⟨rfl, rfl⟩
      go_wp2_with fail
      refine (remove_out (show HasSet w2 g L from H.out.get (.tail _ (.head _))) ((q : Int) + far) (by rw [← HL.out]; omega)).mono ?_
      rintro e w' ⟨rfl, rfl⟩
      go_wp2_with fail
      refine (sep_union H.out (by rw [List.length_replicate]; exact HL.out.symm) L (by rw [HL.out]; exact orL_none L)).mono ?_
      rintro e w3 ⟨rfl, hs⟩
      have H := Lib.hid hs
      clear hs
      go_wp2_with fail
      refine (sep_minus H.out (by rw [List.length_replicate]; exact HL.out.symm) L (by rw [HL.out]; exact notL_none L)).mono ?_
      rintro e w4 ⟨rfl, hs⟩
      have H := Lib.hid hs
      clear hs
      go_wp2_with fail
      refine (sep_slots H.out _ q q (by rw [← HL.out]; omega) (bv_reads (H.out.get (.tail _ (.tail _ (.head _)))) q HL.out) _ rfl).mono ?_
      rintro e w5 ⟨A5, c5, rfl, hs, hb, hr⟩
      have H := Lib.hid hs
      have HR := Lib.hid hr
      clear hs hb hr
      go_wp2_with fail
      refine (sep_same H.out (show HasSet w5 g L from H.out.get (.tail _ (.head _))) _ _ _ _ rfl HR.out).mono ?_
      rintro e w6 ⟨rfl, hs, hb⟩
      have H := Lib.hid hs
      clear hs hb HR
      go_wp2_with fail
      refine (works_any _ (H.out.tab HT.out hp)).mono ?_
      rintro e w15 ⟨rfl, hb⟩
      go_wp2
      go_ret
      exact ⟨rfl, bt H.out.bel hb⟩
    · have hd : ((q : Int) != (n : Int)) = true := by simp; omega
      have HQ : Hid (L.length ≠ (List.replicate q false).length) := by show _ ≠ _; rw [List.length_replicate, ← HL.out]; omega
      clear hqn
      go_wp2_with fail
      refine (new_set_bad (-far) _ (by omega)).mono ?_
      rintro e w' ⟨rfl, rfl⟩
      go_wp2_with fail
      refine (new_set_bad (35 + far) _ (by omega)).mono ?_
      rintro e w' ⟨rfl, rfl⟩
      go_wp2_with fail
      refine (add_out (show HasSet w2 g L from H.out.get (.tail _ (.head _))) (-1 - far) (by omega)).mono ?_
      rintro e w' ⟨rfl, rfl⟩
      go_wp2_with fail
      refine (remove_out (show HasSet w2 g L from H.out.get (.tail _ (.head _))) ((n : Int) + far) (by rw [← HL.out]; omega)).mono ?_
      rintro e w' ⟨rfl, rfl⟩
      go_wp2_with fail
      refine (sep_union_bad H.out (H.out.get (.tail _ (.head _))) H.out.set HQ.out).mono ?_
      rintro e w3 ⟨rfl, hs⟩
      have H := Lib.hid hs
      clear hs
      go_wp2_with fail
      refine (sep_minus_bad H.out (H.out.get (.tail _ (.head _))) H.out.set HQ.out).mono ?_
      rintro e w4 ⟨rfl, hs⟩
      have H := Lib.hid hs
      clear hs
      go_wp2_with fail
      refine (sep_slots H.out _ n n (by rw [← HL.out]; omega) (bv_reads (H.out.get (.tail _ (.tail _ (.head _)))) n HL.out) _ rfl).mono ?_
      rintro e w5 ⟨A5, c5, rfl, hs, hb, hr⟩
      have H := Lib.hid hs
      have HR := Lib.hid hr
      clear hs hb hr
      go_wp2_with fail
      refine (sep_same H.out (show HasSet w5 g L from H.out.get (.tail _ (.head _))) _ _ _ _ rfl HR.out).mono ?_
      rintro e w6 ⟨rfl, hs, hb⟩
      have H := Lib.hid hs
      clear hs hb HR
      go_wp2_with fail
      refine (works_any _ (H.out.tab HT.out hp)).mono ?_
      rintro e w15 ⟨rfl, hb⟩
      go_wp2
      go_ret
      exact ⟨rfl, bt H.out.bel hb⟩
theorem SlotsetRefuses_walk (v0 v1 v2 : Value) (w : World) (ht : TabIn w) (h0 : ArgIn Tryd.prog w 5 v0) (h1 : ArgIn Tryd.prog w 22 v1) (h2 : ArgIn Tryd.prog w 41 v2) :
    Calls Tryd.prog 6 #[v0, v1, v2] w fun e w' => e = .returned (.bool true) ∧ Below w.heap.size w w' := by
  obtain ⟨n, rfl, w2⟩ := h0.int Tryd.underlying5
  obtain ⟨b, rfl⟩ := u8_of_wf w2
  obtain ⟨A1, n1, c1, l1, rfl, _, hm1, hr1⟩ := h1.bytes
  obtain ⟨far, rfl, w3⟩ := h2.int Tryd.underlying41
  obtain ⟨f1, f2⟩ := u16_of_wf w3
  exact SlotsetRefuses_w b far f1 f2 A1 n1 c1 l1 w ht hr1 hm1
end Go.Proofs.YthmkaefpgcjlnaaDoor

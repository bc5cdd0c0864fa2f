/-
  The walk of the law SlotsetHas: it returns true and writes nothing that was there. Condition: the library's table holds what its text lists.
-/
import Derived.Test.YthmkaefpgcjlnaaDoorSlotsetNextW
namespace Go.Proofs.YthmkaefpgcjlnaaDoor
open Go.RowKit Go.Shelf
set_option linter.unusedVariables false
/-- The first number of a list that is not below another. -/
def ffV : List Nat → Int → Nat
  | [], _ => 0
  | x :: l, f => if f ≤ (x : Int) then x else ffV l f
def ffB : List Nat → Int → Bool
  | [], _ => false
  | x :: l, f => if f ≤ (x : Int) then true else ffB l f
theorem ff_none (l : List Nat) (f : Int) (h : ffB l f = false) : ffV l f = 0 ∧ ∀ x ∈ l, (x : Int) < f := by
  induction l with
  | nil => exact ⟨rfl, fun x hx => by cases hx⟩
  | cons y l ih =>
    unfold ffB at h
    split at h
    · cases h
    · rename_i hy
      obtain ⟨h1, h2⟩ := ih h
      refine ⟨by unfold ffV; rw [if_neg hy]; exact h1, fun x hx => ?_⟩
      rcases List.mem_cons.1 hx with rfl | hx
      · omega
      · exact h2 x hx
theorem ff_some (l : List Nat) (f : Int) (hs : l.Pairwise (· < ·)) (h : ffB l f = true) : ffV l f ∈ l ∧ f ≤ (ffV l f : Int) ∧ ∀ x ∈ l, f ≤ (x : Int) → ffV l f ≤ x := by
  induction l with
  | nil => cases h
  | cons y l ih =>
    obtain ⟨h1, h2⟩ := List.pairwise_cons.1 hs
    unfold ffB at h
    split at h
    · rename_i hy
      unfold ffV
      rw [if_pos hy]
      refine ⟨.head _, hy, fun x hx _ => ?_⟩
      rcases List.mem_cons.1 hx with rfl | hx
      · exact Nat.le_refl _
      · exact Nat.le_of_lt (h1 x hx)
    · rename_i hy
      obtain ⟨k1, k2, k3⟩ := ih h2 h
      unfold ffV
      rw [if_neg hy]
      refine ⟨.tail _ k1, k2, fun x hx hf => ?_⟩
      rcases List.mem_cons.1 hx with rfl | hx
      · omega
      · exact k3 x hx hf
theorem ff_next (L : List Bool) (f : Int) : NextIs L f (ffV (slotsOf L) f) (ffB (slotsOf L) f) := by
  cases h : ffB (slotsOf L) f with
  | false =>
    obtain ⟨h1, h2⟩ := ff_none _ _ h
    refine .inr ⟨rfl, h1, fun i hf => ?_⟩
    cases hb : inL L i with
    | false => rfl
    | true => have := h2 i ((slots_mem L i).2 hb); omega
  | true =>
    obtain ⟨h1, h2, h3⟩ := ff_some _ _ (slots_sorted L) h
    refine .inl ⟨rfl, (slots_mem L _).1 h1, h2, fun i hi hf => ?_⟩
    cases hb : inL L i with
    | false => rfl
    | true => have := h3 i ((slots_mem L i).2 hb) hf; omega
theorem ff_zero (l : List Nat) : ffB l 0 = decide (0 < l.length) ∧ ∀ x ∈ l[0]?, ffV l 0 = x := by
  cases l with
  | nil => exact ⟨rfl, fun x hx => by cases hx⟩
  | cons y l =>
    have hy : (0 : Int) ≤ (y : Int) := by omega
    unfold ffB ffV
    rw [if_pos hy, if_pos hy]
    exact ⟨by simp, fun x hx => by simpa using hx⟩
theorem drop_at (l : List Nat) (j : Nat) (hj : j < l.length) : l.drop j = l[j] :: l.drop (j + 1) := List.drop_eq_getElem_cons hj
set_option maxHeartbeats 8000000 in
set_option maxRecDepth 100000 in
theorem SlotsetHas_w (sz : BitVec 8) (fr : Int) (hfr : -9223372036854775808 ≤ fr ∧ fr ≤ 9223372036854775807) (A1 : Option Addr) (n1 c1 : Nat) (l1 : List (BitVec 8)) (w : World) (ht : TabIn w) (hr1 : Reads w w.heap.size 1 A1 n1 (u8s l1)) (hm1 : n1 ≤ maxLen) :
    Calls Tryd.prog 3 #[.int .u8 (n8 sz), .slice A1 n1 c1, .int .i64 fr] w fun e w' => e = .returned (.bool true) ∧ Below w.heap.size w w' := by
  have HT := Lib.hid ht
  have hp := ht.pos
  have HR1 := Lib.hid hr1
  have HFR := Lib.hid hfr
  unfold maxLen at hm1
  obtain ⟨hz1, hz2⟩ := n8_bd sz
  clear ht hr1 hfr
  by_cases h1 : 200 < n1
  · go_enter Tryd.func3, Tryd.ntmps3
    go_wp2_with fail
    refine (works_any _ HT.out).mono ?_
    rintro e w12 ⟨rfl, hb⟩
    go_wp2
    go_ret
    exact ⟨rfl, hb⟩
  · go_enter Tryd.func3, Tryd.ntmps3
    go_wp2_with fail
    refine (sep_filled (Sep.start w) sz _ _ _ l1 HR1.out (by omega)).mono ?_
    rintro e w1 ⟨g, bi, n, L, rfl, hn, hN, hs, hb⟩
    have HL := Lib.hid hn
    have hlen := hs.len
    have hn34 : n ≤ 34 := by omega
    have hE := slotsOf_le L
    have hEn : (slotsOf L).length ≤ n := by omega
    have H := Lib.hid hs
    clear hs hN hb hlen hn hE
    go_wp2_with fail
    refine (sep_slots H.out _ n n (by rw [← HL.out]; omega) (H.out.bv n HL.out) _ rfl).mono ?_
    rintro e w2 ⟨A5, c5, rfl, hs, hb, hr⟩
    have H := Lib.hid hs
    have HR := Lib.hid hr
    clear hs hb hr
    go_wp2_with fail
    refine (sep_same H.out H.out.set _ _ _ _ rfl HR.out).mono ?_
    rintro e w3 ⟨rfl, hs, hb⟩
    have H := Lib.hid hs
    clear hs hb HR
    go_wp2_with fail
    go_loopg [9] (n + 2) (fun q v9 wr => ∃ i : Int, i + q = (n : Int) + 1 ∧ -1 ≤ i ∧ v9 = .int .i64 i ∧ w3 = wr)
    case atStart => exact ⟨-1, by omega, by omega, rfl, rfl⟩
    case round =>
      obtain ⟨i, hi, hi1, rfl, rfl⟩ := hrel
      have HI := Lib.hid hi
      by_cases hneg : i < 0
      · have hle : i ≤ (n : Int) := by omega
        clear hi
        go_wp2_with fail
        refine (has_out H.out.set i (.inl hneg)).mono ?_
        rintro e w' ⟨rfl, rfl⟩
        go_wp2_with fail
        go_roundg (gk - 1)
        case measure => have := HI.out; omega
        case rel => exact ⟨i + 1, by have := HI.out; omega, by omega, by go_num, rfl⟩
      · obtain ⟨k, rfl⟩ := Int.eq_ofNat_of_zero_le (show 0 ≤ i by omega)
        by_cases hlt : k < n
        · have hle : (k : Int) ≤ (n : Int) := by omega
          have hB : Blk w3 bi 4 (bvals L).toArray := H.out.get (.tail _ (.head _))
          have cb : w3.cell? ⟨bi, k, none⟩ = some (.bool (inL L k)) := by rw [hB.cell, List.getElem?_toArray, bvals_at (by rw [← HL.out]; exact hlt)]
          have HH := Lib.hid (has_of H.out.set k (by rw [← HL.out]; exact hlt))
          clear hi hB hneg
          generalize inL L k = b at cb HH
          go_wp2_with fail
          refine HH.out.mono ?_
          clear HH
          rintro e w' ⟨rfl, rfl⟩
          cases b
          all_goals
            go_wp2_with fail
            go_roundg (gk - 1)
            case measure => have := HI.out; omega
            case rel => exact ⟨(k : Int) + 1, by have := HI.out; omega, by omega, by go_num, rfl⟩
        · by_cases hend : k = n
          · subst hend
            clear hi hneg hlt
            go_wp2_with fail
            refine (has_out H.out.set (k : Int) (.inr (by rw [← HL.out]; omega))).mono ?_
            rintro e w' ⟨rfl, rfl⟩
            go_wp2_with fail
            go_roundg (gk - 1)
            case measure => have := HI.out; omega
            case rel => exact ⟨(k : Int) + 1, by have := HI.out; omega, by omega, by go_num, rfl⟩
          · have hnle : ¬ (k : Int) ≤ (n : Int) := by omega
            clear hi hneg hend hlt
            go_wp2_with fail
            refine (sep_slots H.out _ n n (by rw [← HL.out]; omega) (H.out.bv n HL.out) _ rfl).mono ?_
            rintro e w4 ⟨A6, c6, rfl, hs, hb, hr⟩
            have H4 := Lib.hid hs
            have HR := Lib.hid hr
            clear hs hb hr
            go_wp2_with fail
            go_loopg [11, 12, 13] (slotsOf L).length (fun q v11 v12 v13 wr => ∃ (i : Int) (a : Nat) (b : Bool), i + 1 = q ∧ q ≤ (slotsOf L).length ∧ v13 = .int .i64 i ∧ v11 = .int .i64 a ∧ v12 = .bool b ∧ a = ffV ((slotsOf L).drop q) fr ∧ b = ffB ((slotsOf L).drop q) fr ∧ w4 = wr)
            case atStart => exact ⟨_, 0, false, by omega, Nat.le_refl _, rfl, rfl, rfl, by rw [List.drop_length]; rfl, by rw [List.drop_length]; rfl, rfl⟩
            case round =>
              obtain ⟨i, a, b, hi, hq, rfl, rfl, rfl, ha, hb, rfl⟩ := hrel
              have HI := Lib.hid hi
              have HA := Lib.hid ha
              have HBB := Lib.hid hb
              by_cases hneg : i < 0
              · have hq0 : gk = 0 := by omega
                have HN1 := Lib.hid (next_of H4.out.set (H4.out.tab HT.out hp) fr HFR.out _ _ (ff_next L fr))
                have HL0 := Lib.hid (lowest_of H4.out.set (H4.out.tab HT.out hp) _ _ (ff_next L 0))
                rw [hq0, List.drop_zero] at ha hb
                rw [← ha, ← hb] at HN1
                obtain ⟨z1, z2⟩ := ff_zero (slotsOf L)
                rw [z1] at HL0
                obtain ⟨K, hK⟩ : ∃ K, (slotsOf L).length = K := ⟨_, rfl⟩
                rw [hK] at HL0 HR ⊢
                by_cases hK0 : 0 < K
                · rw [decide_eq_true hK0] at HL0
                  obtain ⟨ad6, u, rfl, hab6, hx6, hc6⟩ := HR.out.at_ hK0
                  rw [nats_at (by omega)] at hx6
                  simp only [Option.some.injEq] at hx6
                  subst hx6
                  have hz := z2 _ (List.getElem?_eq_getElem (by omega))
                  rw [← hz] at hc6
                  have e0 : ad6.add 0 = ad6 := rfl
                  rw [e0] at hc6
                  generalize ffV (slotsOf L) 0 = y at hc6 HL0
                  clear hi ha hb hq hq0 z1 z2 hz hK e0
                  go_wp2_with fail
                  refine HN1.out.mono ?_
                  rintro e w' ⟨rfl, rfl⟩
                  go_wp2_with fail
                  refine HL0.out.mono ?_
                  rintro e w' ⟨rfl, rfl⟩
                  go_wp2_with fail
                  refine (works_any _ (H4.out.tab HT.out hp)).mono ?_
                  rintro e w15 ⟨rfl, hb⟩
                  go_wp2
                  go_ret
                  exact ⟨rfl, bt H4.out.bel hb⟩
                · rw [decide_eq_false hK0] at HL0
                  have hK1 : K = 0 := by omega
                  subst hK1
                  generalize ffV (slotsOf L) 0 = y at HL0
                  clear hi ha hb hq hq0 z1 z2 hK
                  go_wp2_with fail
                  refine HN1.out.mono ?_
                  rintro e w' ⟨rfl, rfl⟩
                  go_wp2_with fail
                  refine HL0.out.mono ?_
                  rintro e w' ⟨rfl, rfl⟩
                  go_wp2_with fail
                  refine (works_any _ (H4.out.tab HT.out hp)).mono ?_
                  rintro e w15 ⟨rfl, hb⟩
                  go_wp2
                  go_ret
                  exact ⟨rfl, bt H4.out.bel hb⟩
              · obtain ⟨k2, rfl⟩ := Int.eq_ofNat_of_zero_le (show 0 ≤ i by omega)
                have hk2 : k2 < (slotsOf L).length := by omega
                have hgk : gk = k2 + 1 := by omega
                obtain ⟨ad6, u, rfl, hab6, hx6, hc6⟩ := HR.out.at_ hk2
                rw [nats_at hk2] at hx6
                simp only [Option.some.injEq] at hx6
                subst hx6
                have hdr := drop_at (slotsOf L) k2 hk2
                obtain ⟨x, hx⟩ : ∃ x, (slotsOf L)[k2] = x := ⟨_, rfl⟩
                rw [hx] at hc6 hdr
                have HDR := Lib.hid hdr
                rw [hgk] at ha hb
                have HA := Lib.hid ha
                have HBB := Lib.hid hb
                have HK := Lib.hid hk2
                clear hi ha hb hdr hx hneg hgk hq
                by_cases hxf : fr ≤ (x : Int)
                · go_wp2_with fail
                  go_roundg (gk - 1)
                  case measure => have := HI.out; omega
                  case rel =>
                    have e1 : gk - 1 = k2 := by have := HI.out; omega
                    refine ⟨(k2 : Int) - 1, x, true, by rw [e1]; omega, by rw [e1]; have := HK.out; omega, by go_num, rfl, rfl, ?_, ?_, rfl⟩
                    · rw [e1, HDR.out]; unfold ffV; rw [if_pos hxf]
                    · rw [e1, HDR.out]; unfold ffB; rw [if_pos hxf]
                · go_wp2_with fail
                  go_roundg (gk - 1)
                  case measure => have := HI.out; omega
                  case rel =>
                    have e1 : gk - 1 = k2 := by have := HI.out; omega
                    refine ⟨(k2 : Int) - 1, a, b, by rw [e1]; omega, by rw [e1]; have := HK.out; omega, by go_num, rfl, rfl, ?_, ?_, rfl⟩
                    · rw [e1, HDR.out]; unfold ffV; rw [if_neg (by omega)]; exact HA.out
                    · rw [e1, HDR.out]; unfold ffB; rw [if_neg (by omega)]; exact HBB.out
theorem SlotsetHas_walk (v0 v1 v2 : Value) (w : World) (ht : TabIn w) (h0 : ArgIn Tryd.prog w 5 v0) (h1 : ArgIn Tryd.prog w 22 v1) (h2 : ArgIn Tryd.prog w 3 v2) :
    Calls Tryd.prog 3 #[v0, v1, v2] w fun e w' => e = .returned (.bool true) ∧ Below w.heap.size w w' := by
  obtain ⟨n, rfl, w2⟩ := h0.int Tryd.underlying5
  obtain ⟨b, rfl⟩ := u8_of_wf w2
  obtain ⟨A1, n1, c1, l1, rfl, _, hm1, hr1⟩ := h1.bytes
  obtain ⟨fr, rfl, w3⟩ := h2.int Tryd.underlying3
  exact SlotsetHas_w b fr (i64_of_wf w3) A1 n1 c1 l1 w ht hr1 hm1
end Go.Proofs.YthmkaefpgcjlnaaDoor

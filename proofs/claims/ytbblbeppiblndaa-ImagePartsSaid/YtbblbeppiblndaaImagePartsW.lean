/-
  The walk of the law ImageParts: it returns true and writes nothing that was there. No condition.
-/
import Derived.Test.YtbblbeppiblndaaImgFill
import Derived.Test.YtbblbeppiblndaaClear
namespace Go.Proofs.Ytbblbeppiblndaa
open Go.RowKit
set_option linter.unusedVariables false
set_option maxHeartbeats 4000000 in
theorem ImageParts_w (A : Option Addr) (n c : Nat) (a b : Int) (w : World) (hm : MovesAt w w.heap.size A n) (hn : n ≤ c) (hc : c ≤ maxLen) (hk0 : 0 ≤ a) (hk1 : a < 65536) (ha0 : 0 ≤ b) (ha1 : b < 65536) :
    Calls Try.prog 4 #[.slice A n c, .int .u16 a, .int .u16 b] w fun e w' => e = .returned (.bool true) ∧ Below w.heap.size w w' := by
  have HM := Lib.hid hm
  clear hm
  go_enter Try.func4, Try.ntmps4
  go_wp2_with fail
  refine (filled_any HM.out hn hc).mono ?_
  rintro e w1 ⟨g, fb, l, dur, v, rfl, hs⟩
  have H1 := Lib.hid hs
  have hnum := hs.img.nums
  obtain ⟨A8, c8, rfl, hA8, hc8, hr8⟩ := own_slice (hs.get (.head _))
  unfold maxLen at hc8
  clear hs hr8
  have hz1 : ((l.length : Int) + 1 == 0) = false := by simp; omega
  obtain ⟨p, hp⟩ : ∃ p : Nat, a.tmod ((l.length : Int) + 1) = (p : Int) := ⟨(a.tmod ((l.length : Int) + 1)).toNat, by have := Int.tmod_nonneg ((l.length : Int) + 1) hk0; omega⟩
  have hpl : p ≤ l.length := by
    have h1 := Int.tmod_lt_of_pos a (show (0 : Int) < (l.length : Int) + 1 by omega)
    omega
  have hz2 : ((l.length : Int) - (p : Int) + 1 == 0) = false := by simp; omega
  obtain ⟨q, hq⟩ : ∃ q : Nat, b.tmod ((l.length : Int) - (p : Int) + 1) = (q : Int) := ⟨(b.tmod ((l.length : Int) - (p : Int) + 1)).toNat, by have := Int.tmod_nonneg ((l.length : Int) - (p : Int) + 1) ha0; omega⟩
  have hql : p + q ≤ l.length := by
    have h1 := Int.tmod_lt_of_pos b (show (0 : Int) < (l.length : Int) - (p : Int) + 1 by omega)
    omega
  go_wp2_with fail
  refine (st_read H1.out _ _ 0 p rfl rfl (by omega)).mono ?_
  rintro e w2 ⟨v2, rfl, hs, ho2, hb2⟩
  have H2 : Hid (St w.heap.size w w2 g fb l 300 dur [(v2, l.take p), (.slice A8 l.length c8, l)]) := hs
  have K2 : Hid (∀ k, v2.ownBlock = some k → w1.heap.size ≤ k ∧ k < w2.heap.size) := fun k hk => ho2.lt k hk
  have hs12 := hb2.size
  obtain ⟨A2, c2, rfl, hA2, hc2, _⟩ := own_slice ho2
  clear hs ho2 hb2
  go_wp2_with fail
  refine (st_read H2.out _ _ p q rfl rfl hql).mono ?_
  rintro e w3 ⟨v3, rfl, hs, ho3, hb3⟩
  have H3 := Lib.hid hs
  have K3 : Hid (∀ k, v3.ownBlock = some k → w2.heap.size ≤ k) := fun k hk => (ho3.lt k hk).1
  have hs23 := hb3.size
  obtain ⟨A3, c3, rfl, hA3, hc3, _⟩ := own_slice ho3
  clear hs ho3 hb3
  go_wp2_with fail
  refine (st_read H3.out _ _ 0 (p + q) rfl (by omega) (by omega)).mono ?_
  rintro e w4 ⟨v4, rfl, hs, ho4, hb4⟩
  have H4 : Hid (St w.heap.size w w4 g fb l 300 dur [(v4, l.take (p + q)), (.slice A3 q c3, (l.drop p).take q), (.slice A2 p c2, l.take p), (.slice A8 l.length c8, l)]) := hs
  have K4 : Hid (∀ k, v4.ownBlock = some k → w3.heap.size ≤ k) := fun k hk => (ho4.lt k hk).1
  have hs34 := hb4.size
  obtain ⟨A4, c4, rfl, hA4, hc4, _⟩ := own_slice ho4
  clear hs ho4 hb4
  have K8 : Hid (∀ k, (Value.slice A8 l.length c8).ownBlock = some k → k < w1.heap.size) := fun k hk => ((H1.out.get (.head _)).lt k hk).2
  have hl2 : (l.take p).length = p := by rw [List.length_take]; omega
  have hl3 : ((l.drop p).take q).length = q := by rw [List.length_take, List.length_drop]; omega
  have hl4 : (l.take (p + q)).length = p + q := by rw [List.length_take]; omega
  have HL2 := Lib.hid hl2
  have HL3 := Lib.hid hl3
  have HL4 := Lib.hid hl4
  have HO2 : Hid (w4.ownsRow w.heap.size 5 1 (.slice A2 p c2) p (u8s (l.take p))) := by have := H4.out.get (.tail _ (.tail _ (.head _))); unfold Own8 at this; rwa [hl2] at this
  have HR3 : Hid (Reads w4 w4.heap.size 1 A3 q (u8s ((l.drop p).take q))) := by have := H4.out.get (.tail _ (.head _)); unfold Own8 at this; rw [hl3] at this; exact Reads.of_own this
  clear hl2 hl3 hl4
  obtain ⟨i0, hi0, hz0, hz1, hz2⟩ := info_parts u8_info
  go_wp2_with (at_builtin
               refine wpList_append_g _ (by simp [Region.wanted, yielded]) (.tmp 74) (.tmp 75) _ rfl w.heap.size 5 i0 _ 1 1 Try.underlying25 hi0 hz0 hz1 hz2 rfl (by omega) (.slice A2 p c2) p (u8s (l.take p)) rfl
                 HO2.out w4.heap.size A3 _ c3 (u8s ((l.drop p).take q)) rfl HR3.out (u8s_one _) (by simp only [maxLen]; omega) (by omega) H4.out.big ?_
               intro v5 w5 hown1 hg1 hat1
               rw [u8s_append] at hown1
               have H5 := Lib.hid (H4.out.touch ((Chg.refl (fun k => (Value.slice A2 p c2).ownBlock = some k) w4).grown hg1 (fun q hq => .inl hq)) (fun k hk => ⟨by have := H1.out.big; have := (K2.out k hk).1; omega, (H4.out.held _ (.tail _ (.tail _ (.head _)))).2 k hk⟩)
                 [(.slice A4 (p + q) c4, l.take (p + q)), (.slice A8 l.length c8, l)] (fun p hp => by
                   rcases List.mem_cons.1 hp with rfl | hp
                   · exact ⟨.head _, fun k hk hf => by have := (K2.out k hf).2; have := K4.out k hk; omega⟩
                   · rcases List.mem_cons.1 hp with rfl | hp
                     · exact ⟨.tail _ (.tail _ (.tail _ (.head _))), fun k hk hf => by have := (K2.out k hf).1; have := K8.out k hk; omega⟩
                     · cases hp))
               have HO5 := Lib.hid (Holds.of_own hown1)
               clear hown1 hg1 hat1)
  refine (eq_holds HO5.out (H5.out.get (.head _)).holds).mono ?_
  rw [decide_eq_true (show l.take p ++ (l.drop p).take q = l.take (p + q) from (List.take_add ..).symm)]
  rintro e w6 ⟨rfl, rfl⟩
  have HA : Hid (Holds w5 (.slice A8 (p + q) c8) (l.take (p + q))) := by
    obtain ⟨A', c', e, h1, h2, h3⟩ := own_slice (H5.out.get (.tail _ (.head _)))
    injection e with e1 e2 e3
    subst e1 e3
    exact ⟨A8, p + q, c8, rfl, HL4.out.symm, by omega, h2, h3.take hql⟩
  go_wp2_with fail
  refine (eq_holds (H5.out.get (.head _)).holds HA.out).mono ?_
  rw [decide_eq_true rfl]
  rintro e w6 ⟨rfl, rfl⟩
  obtain ⟨w6, hclr, ho6, hch⟩ := run_clear_own (H5.out.get (.head _)) 0
  have H6 := Lib.hid (H5.out.touch hch (fun k hk => ⟨by have := K4.out k hk; have := H1.out.big; omega, (H5.out.held _ (.head _)).2 k hk⟩) [(.slice A8 l.length c8, l)] (fun p hp => by
    rcases List.mem_cons.1 hp with rfl | hp
    · exact ⟨.tail _ (.head _), fun k hk hf => by have := K4.out k hf; have := K8.out k hk; omega⟩
    · cases hp))
  clear ho6 hch
  go_wp2_with fail
  refine (has_any H6.out (H6.out.get (.head _)).holds).mono ?_
  rintro e w7 ⟨rfl, hs, _⟩
  have H7 := Lib.hid hs
  clear hs
  go_wp2_with fail
  refine (st_durable H7.out).mono ?_
  rintro e w8 ⟨rfl, rfl⟩
  go_wp2_with fail
  refine (works_any _).mono ?_
  rintro e w9 ⟨rfl, hb⟩
  go_wp2
  go_ret
  exact ⟨rfl, bt H7.out.bel hb⟩
theorem ImageParts_walk (v0 v1 v2 : Value) (w : World) (h0 : ArgIn Try.prog w 22 v0) (h1 : ArgIn Try.prog w 23 v1) (h2 : ArgIn Try.prog w 23 v2) :
    Calls Try.prog 4 #[v0, v1, v2] w fun e w' => e = .returned (.bool true) ∧ Below w.heap.size w w' := by
  obtain ⟨A, n, c, rfl, hn, hc, hm⟩ := moves_arg h0
  obtain ⟨a, rfl, w2⟩ := h1.int Try.underlying23
  obtain ⟨b, rfl, w3⟩ := h2.int Try.underlying23
  have := u16_of_wf w2
  have := u16_of_wf w3
  exact ImageParts_w A n c a b w hm hn hc (by omega) (by omega) (by omega) (by omega)
end Go.Proofs.Ytbblbeppiblndaa

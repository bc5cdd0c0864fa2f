/-
  The walk of the law ImagePrefix: it returns true and writes nothing that was there. No condition.
-/
import Derived.Test.YtbblbeppiblndaaImgFill
namespace Go.Proofs.Ytbblbeppiblndaa
open Go.RowKit
set_option linter.unusedVariables false
set_option maxHeartbeats 4000000 in
theorem ImagePrefix_w (A : Option Addr) (n c : Nat) (keep again : Int) (w : World) (hm : MovesAt w w.heap.size A n) (hn : n ≤ c) (hc : c ≤ maxLen) (hk0 : 0 ≤ keep) (hk1 : keep < 65536) (ha0 : 0 ≤ again) (ha1 : again < 65536) :
    Calls Try.prog 3 #[.slice A n c, .int .u16 keep, .int .u16 again] w fun e w' => e = .returned (.bool true) ∧ Below w.heap.size w w' := by
  have HM := Lib.hid hm
  clear hm
  go_enter Try.func3, Try.ntmps3
  go_wp2_with fail
  refine (filled_any HM.out hn hc).mono ?_
  rintro e w1 ⟨g, fb, l, dur, v, rfl, hs⟩
  have H1 := Lib.hid hs
  have hnum := hs.img.nums
  obtain ⟨A8, c8, rfl, hA8, hc8, hr8⟩ := own_slice (hs.get (.head _))
  unfold maxLen at hc8
  clear hs hr8
  go_wp2_with fail
  refine (has_any H1.out (H1.out.get (.head _)).holds).mono ?_
  rintro e w2 ⟨rfl, hs, hb⟩
  have H2 := Lib.hid hs
  clear hs hb
  go_wp2_with fail
  refine (st_durable H2.out).mono ?_
  rintro e w3 ⟨rfl, rfl⟩
  obtain ⟨m, hm⟩ : ∃ m : Nat, m = dur + min keep.toNat (l.length - dur) := ⟨_, rfl⟩
  have hmin : Hid ((if (dur : Int) + keep < (l.length : Int) then (dur : Int) + keep else (l.length : Int)) = (m : Int)) := by
    show _ = _
    split <;> omega
  have hml : m ≤ l.length := by omega
  have HMM := Lib.hid hm
  have htl : (l.take m).length = m := by rw [List.length_take]; omega
  have HTL := Lib.hid htl
  clear hm htl
  go_wp2_with (with_reducible refine wpList_min rfl _ _ _ _ _ _ _ rfl rfl rfl hmin.out ?_)
  refine (st_crash H2.out keep (by omega) (by omega) m HMM.out).mono ?_
  rintro e w4 ⟨rfl, hs, hch⟩
  have H4 := Lib.hid hs
  clear hs hch
  have HV : ∀ W fb', St w.heap.size w W g fb' (l.take m) 300 m [(.slice A8 l.length c8, l)] → Holds W (.slice A8 m c8) (l.take m) := by
    intro W fb' h
    obtain ⟨A', c', e, h1, h2, h3⟩ := own_slice (h.get (.head _))
    injection e with e1 e2 e3
    subst e1 e3
    exact ⟨A8, m, c8, rfl, HTL.out.symm, by omega, h2, h3.take hml⟩
  have HV := Lib.hid HV
  go_wp2_with fail
  refine (has_any H4.out (HV.out _ _ H4.out)).mono ?_
  rintro e w5 ⟨rfl, hs, _⟩
  have H5 := Lib.hid hs
  clear hs
  go_wp2_with fail
  refine (st_durable H5.out).mono ?_
  rintro e w6 ⟨rfl, rfl⟩
  go_wp2_with fail
  refine (st_crash H5.out again (by omega) (by omega) m (by rw [HTL.out]; omega)).mono ?_
  rw [List.take_of_length_le (Nat.le_of_eq HTL.out)]
  rintro e w7 ⟨rfl, hs, _⟩
  have H7 := Lib.hid hs
  clear hs
  go_wp2_with fail
  refine (has_any H7.out (HV.out _ _ H7.out)).mono ?_
  rintro e w8 ⟨rfl, hs, _⟩
  have H8 := Lib.hid hs
  clear hs
  go_wp2_with fail
  refine (st_durable H8.out).mono ?_
  rintro e w9 ⟨rfl, rfl⟩
  go_wp2_with fail
  refine (works_any _).mono ?_
  rintro e w9 ⟨rfl, hb⟩
  go_wp2
  go_ret
  exact ⟨rfl, bt H8.out.bel hb⟩
theorem ImagePrefix_walk (v0 v1 v2 : Value) (w : World) (h0 : ArgIn Try.prog w 22 v0) (h1 : ArgIn Try.prog w 23 v1) (h2 : ArgIn Try.prog w 23 v2) :
    Calls Try.prog 3 #[v0, v1, v2] w fun e w' => e = .returned (.bool true) ∧ Below w.heap.size w w' := by
  obtain ⟨A, n, c, rfl, hn, hc, hm⟩ := moves_arg h0
  obtain ⟨a, rfl, w2⟩ := h1.int Try.underlying23
  obtain ⟨b, rfl, w3⟩ := h2.int Try.underlying23
  have := u16_of_wf w2
  have := u16_of_wf w3
  exact ImagePrefix_w A n c a b w hm hn hc (by omega) (by omega) (by omega) (by omega)
end Go.Proofs.Ytbblbeppiblndaa

/-
  A table's methods in one form each, for any numbers, among other objects of a call's own; the walk of the law's works. Conditions: the table is as New makes it; the variables hold what their texts list.
-/
import Derived.Test.YtalonikiljcpfaaDoorTab5
namespace Go.Proofs.YtalonikiljcpfaaDoor
open Go.RowKit
set_option linter.unusedVariables false
def takeE (T : List Nat) (s low : Nat) (err : Int) : Int := if 0 < cnt T s then 6 else if cnt T 0 ≤ low then err else 0
def takeV (T : List Nat) (s low : Nat) : Nat := if 0 < cnt T s then 0 else if cnt T 0 ≤ low then 0 else firstIn T 0
def takeT (T : List Nat) (s low : Nat) : List Nat := if 0 < cnt T s then T else if cnt T 0 ≤ low then T else T.set (firstIn T 0) s
def inT (T : List Nat) (i : Int) : Prop := 0 ≤ i ∧ i < T.length
instance (T : List Nat) (i : Int) : Decidable (inT T i) := by unfold inT; infer_instance
def chgE (b : Nat → Bool) (to : Nat) (T : List Nat) (i : Int) : Int := if inT T i then (if b (T.getD i.toNat 0) = true then (if to = 3 ∧ 0 < cnt T 3 then 6 else 0) else 7) else 3
def chgT (b : Nat → Bool) (to : Nat) (T : List Nat) (i : Int) : List Nat := if inT T i then (if b (T.getD i.toNat 0) = true then (if to = 3 ∧ 0 < cnt T 3 then T else T.set i.toNat to) else T) else T
theorem takeT_length (T : List Nat) (s low : Nat) : (takeT T s low).length = T.length := by
  unfold takeT
  split
  · rfl
  · split
    · rfl
    · exact List.length_set
theorem chgT_length (b : Nat → Bool) (to : Nat) (T : List Nat) (i : Int) : (chgT b to T i).length = T.length := by
  unfold chgT
  split
  · split
    · split
      · rfl
      · exact List.length_set
    · rfl
  · rfl
theorem inT_or (T : List Nat) (i : Int) : (∃ j : Nat, i = (j : Int) ∧ j < T.length ∧ inT T i ∧ i.toNat = j) ∨ ((i < 0 ∨ (T.length : Int) ≤ i) ∧ ¬ inT T i) := by
  by_cases h : inT T i
  · obtain ⟨h1, h2⟩ := h
    exact .inl ⟨i.toNat, by omega, by omega, ⟨h1, h2⟩, rfl⟩
  · exact .inr ⟨by unfold inT at h; omega, h⟩
section
variable {B : Nat} {w0 w w' : World} {os : List Ob} {g r : Nat} {p : Nat → Nat} {T : List Nat}
theorem Sep.table (h : Sep B w0 w (tabOb g p r T :: os)) : IsTab w g p r T := h.get (.head _)
theorem Sep.laid (h : Sep B w0 w os) (hl : LaidIn w0) (hB : 5 ≤ B) : LaidIn w := hl.below h.bel hB
theorem Sep.tabTo {T' : List Nat} (h : Sep B w0 w (tabOb g p r T :: os)) (ht : TabTo w w' g p r T') : Sep B w0 w' (tabOb g p r T' :: os) :=
  h.step (a' := tabOb g p r T') ht.2 ht.1 (fun _ h => .inl h)
theorem tstate_any (h : IsTab w g p r T) (i : Int) :
    Calls Tryd.prog 16 #[.pointer (some ⟨g, 0, none⟩), .int .i64 i] w fun e w' => e = .returned (.tuple #[.int .i64 (stV T i : Int), .int .i64 (stE T i)]) ∧ w = w' := by
  have e1 : stV T i = if inT T i then T.getD i.toNat 0 else 0 := rfl
  have e2 : stE T i = if inT T i then 0 else 3 := rfl
  rw [e1, e2]
  rcases inT_or T i with ⟨j, rfl, hj, hin, ht⟩ | ⟨ho, hno⟩
  · rw [if_pos hin, if_pos hin, ht, List.getD_eq_getElem?_getD, List.getElem?_eq_getElem hj, Option.getD_some]
    exact tstate_in h j hj
  · rw [if_neg hno, if_neg hno]
    exact tstate_out h i ho
theorem sep_tnew (h : Sep B w0 w os) (n r : Nat) (h1 : 1 ≤ n) (h2 : n ≤ 32) (hr : r ≤ n) :
    Calls Tryd.prog 21 #[.int .i64 (n : Int), .int .i64 (r : Int)] w fun e w' => ∃ g p, e = .returned (.tuple #[.pointer (some ⟨g, 0, none⟩), .int .i64 0]) ∧ Sep B w0 w' (tabOb g p r (List.replicate n 0) :: os) :=
  (tnew n r w h1 h2 hr).mono fun e w' ⟨g, p, h1, h2, h3, h4⟩ => ⟨g, p, h1, h.add (a := tabOb g p r _) h4 h2 h3⟩
theorem sep_tcopy (h : Sep B w0 w os) (ht : IsTab w g p r T) :
    Calls Tryd.prog 24 #[.pointer (some ⟨g, 0, none⟩)] w fun e w' => ∃ g' p', e = .returned (.pointer (some ⟨g', 0, none⟩)) ∧ Sep B w0 w' (tabOb g' p' r T :: os) :=
  (tcopy ht).mono fun e w' ⟨g', p', h1, h2, h3, h4⟩ => ⟨g', p', h1, h.add (a := tabOb g' p' r T) h4 h2 h3⟩
theorem sep_tactive (h : Sep B w0 w (tabOb g p r T :: os)) (hl : LaidIn w0) (hB : 5 ≤ B) (v : Nat) (c : Int) (T' : List Nat) (hv : takeV T 1 r = v) (hc : takeE T 1 r 11 = c) (hT : takeT T 1 r = T') :
    Calls Tryd.prog 22 #[.pointer (some ⟨g, 0, none⟩)] w fun e w' => e = .returned (.tuple #[.int .i64 (v : Int), .int .i64 c]) ∧ Sep B w0 w' (tabOb g p r T' :: os) := by
  subst hv hc hT
  refine (tactive h.table (h.laid hl hB).tab).mono ?_
  rintro e w' ⟨v, c, rfl, hR⟩
  unfold takeV takeE takeT
  rcases hR with ⟨h1, rfl, rfl, h2⟩ | ⟨h1, h2, rfl, rfl, h3⟩ | ⟨h1, h2, rfl, rfl, h3⟩
  · rw [if_pos h1, if_pos h1, if_pos h1]
    exact ⟨rfl, h.tabTo h2⟩
  · have hn : ¬ 0 < cnt T 1 := by omega
    rw [if_neg hn, if_neg hn, if_neg hn, if_pos h2, if_pos h2, if_pos h2]
    exact ⟨rfl, h.tabTo h3⟩
  · have hn : ¬ 0 < cnt T 1 := by omega
    have hn2 : ¬ cnt T 0 ≤ r := by omega
    rw [if_neg hn, if_neg hn, if_neg hn, if_neg hn2, if_neg hn2, if_neg hn2]
    exact ⟨rfl, h.tabTo h3⟩
theorem sep_toutput (h : Sep B w0 w (tabOb g p r T :: os)) (hl : LaidIn w0) (hB : 5 ≤ B) (v : Nat) (c : Int) (T' : List Nat) (hv : takeV T 4 0 = v) (hc : takeE T 4 0 4 = c) (hT : takeT T 4 0 = T') :
    Calls Tryd.prog 23 #[.pointer (some ⟨g, 0, none⟩)] w fun e w' => e = .returned (.tuple #[.int .i64 (v : Int), .int .i64 c]) ∧ Sep B w0 w' (tabOb g p r T' :: os) := by
  subst hv hc hT
  refine (toutput h.table (h.laid hl hB).tab).mono ?_
  rintro e w' ⟨v, c, rfl, hR⟩
  unfold takeV takeE takeT
  rcases hR with ⟨h1, rfl, rfl, h2⟩ | ⟨h1, h2, rfl, rfl, h3⟩ | ⟨h1, h2, rfl, rfl, h3⟩
  · rw [if_pos h1, if_pos h1, if_pos h1]
    exact ⟨rfl, h.tabTo h2⟩
  · have hn : ¬ 0 < cnt T 4 := by omega
    rw [if_neg hn, if_neg hn, if_neg hn, if_pos h2, if_pos h2, if_pos h2]
    exact ⟨rfl, h.tabTo h3⟩
  · have hn : ¬ 0 < cnt T 4 := by omega
    have hn2 : ¬ cnt T 0 ≤ 0 := by omega
    rw [if_neg hn, if_neg hn, if_neg hn, if_neg hn2, if_neg hn2, if_neg hn2]
    exact ⟨rfl, h.tabTo h3⟩
theorem sep_tseal (h : Sep B w0 w (tabOb g p r T :: os)) (hl : LaidIn w0) (hB : 5 ≤ B) (i c : Int) (T' : List Nat) (hc : chgE sealB 2 T i = c) (hT : chgT sealB 2 T i = T') :
    Calls Tryd.prog 17 #[.pointer (some ⟨g, 0, none⟩), .int .i64 i] w fun e w' => e = .returned (.int .i64 c) ∧ Sep B w0 w' (tabOb g p r T' :: os) := by
  subst hc hT
  unfold chgE chgT
  rcases inT_or T i with ⟨j, rfl, hj, hin, ht⟩ | ⟨ho, hno⟩
  · rw [if_pos hin, if_pos hin, ht, List.getD_eq_getElem?_getD, List.getElem?_eq_getElem hj, Option.getD_some]
    refine (tseal_in h.table (h.laid hl hB) j hj).mono ?_
    rintro e w' ⟨c, rfl, hR⟩
    rcases hR with ⟨h1, rfl, h2⟩ | ⟨h1, h3, h4, rfl, h2⟩ | ⟨h1, h3, rfl, h2⟩
    · rw [if_neg (by rw [h1]; simp), if_neg (by rw [h1]; simp)]
      exact ⟨rfl, h.tabTo h2⟩
    · rw [if_pos h1, if_pos h1, if_pos ⟨h3, h4⟩, if_pos ⟨h3, h4⟩]
      exact ⟨rfl, h.tabTo h2⟩
    · rw [if_pos h1, if_pos h1, if_neg h3, if_neg h3]
      exact ⟨rfl, h.tabTo h2⟩
  · rw [if_neg hno, if_neg hno]
    exact (tseal_range h.table (h.laid hl hB) i ho).mono fun e w' ⟨h1, h2⟩ => ⟨h1, h.tabTo h2⟩
theorem sep_tchoose (h : Sep B w0 w (tabOb g p r T :: os)) (hl : LaidIn w0) (hB : 5 ≤ B) (i c : Int) (T' : List Nat) (hc : chgE chooseB 3 T i = c) (hT : chgT chooseB 3 T i = T') :
    Calls Tryd.prog 18 #[.pointer (some ⟨g, 0, none⟩), .int .i64 i] w fun e w' => e = .returned (.int .i64 c) ∧ Sep B w0 w' (tabOb g p r T' :: os) := by
  subst hc hT
  unfold chgE chgT
  rcases inT_or T i with ⟨j, rfl, hj, hin, ht⟩ | ⟨ho, hno⟩
  · rw [if_pos hin, if_pos hin, ht, List.getD_eq_getElem?_getD, List.getElem?_eq_getElem hj, Option.getD_some]
    refine (tchoose_in h.table (h.laid hl hB) j hj).mono ?_
    rintro e w' ⟨c, rfl, hR⟩
    rcases hR with ⟨h1, rfl, h2⟩ | ⟨h1, h3, h4, rfl, h2⟩ | ⟨h1, h3, rfl, h2⟩
    · rw [if_neg (by rw [h1]; simp), if_neg (by rw [h1]; simp)]
      exact ⟨rfl, h.tabTo h2⟩
    · rw [if_pos h1, if_pos h1, if_pos ⟨h3, h4⟩, if_pos ⟨h3, h4⟩]
      exact ⟨rfl, h.tabTo h2⟩
    · rw [if_pos h1, if_pos h1, if_neg h3, if_neg h3]
      exact ⟨rfl, h.tabTo h2⟩
  · rw [if_neg hno, if_neg hno]
    exact (tchoose_range h.table (h.laid hl hB) i ho).mono fun e w' ⟨h1, h2⟩ => ⟨h1, h.tabTo h2⟩
theorem sep_tdrop (h : Sep B w0 w (tabOb g p r T :: os)) (hl : LaidIn w0) (hB : 5 ≤ B) (i c : Int) (T' : List Nat) (hc : chgE dropB 0 T i = c) (hT : chgT dropB 0 T i = T') :
    Calls Tryd.prog 19 #[.pointer (some ⟨g, 0, none⟩), .int .i64 i] w fun e w' => e = .returned (.int .i64 c) ∧ Sep B w0 w' (tabOb g p r T' :: os) := by
  subst hc hT
  unfold chgE chgT
  rcases inT_or T i with ⟨j, rfl, hj, hin, ht⟩ | ⟨ho, hno⟩
  · rw [if_pos hin, if_pos hin, ht, List.getD_eq_getElem?_getD, List.getElem?_eq_getElem hj, Option.getD_some]
    refine (tdrop_in h.table (h.laid hl hB) j hj).mono ?_
    rintro e w' ⟨c, rfl, hR⟩
    rcases hR with ⟨h1, rfl, h2⟩ | ⟨h1, h3, h4, rfl, h2⟩ | ⟨h1, h3, rfl, h2⟩
    · rw [if_neg (by rw [h1]; simp), if_neg (by rw [h1]; simp)]
      exact ⟨rfl, h.tabTo h2⟩
    · rw [if_pos h1, if_pos h1, if_pos ⟨h3, h4⟩, if_pos ⟨h3, h4⟩]
      exact ⟨rfl, h.tabTo h2⟩
    · rw [if_pos h1, if_pos h1, if_neg h3, if_neg h3]
      exact ⟨rfl, h.tabTo h2⟩
  · rw [if_neg hno, if_neg hno]
    exact (tdrop_range h.table (h.laid hl hB) i ho).mono fun e w' ⟨h1, h2⟩ => ⟨h1, h.tabTo h2⟩
theorem sep_tload (h : Sep B w0 w (tabOb g p r T :: os)) (hl : LaidIn w0) (hB : 5 ≤ B) (i c : Int) (T' : List Nat) (hc : chgE loadB 2 T i = c) (hT : chgT loadB 2 T i = T') :
    Calls Tryd.prog 20 #[.pointer (some ⟨g, 0, none⟩), .int .i64 i] w fun e w' => e = .returned (.int .i64 c) ∧ Sep B w0 w' (tabOb g p r T' :: os) := by
  subst hc hT
  unfold chgE chgT
  rcases inT_or T i with ⟨j, rfl, hj, hin, ht⟩ | ⟨ho, hno⟩
  · rw [if_pos hin, if_pos hin, ht, List.getD_eq_getElem?_getD, List.getElem?_eq_getElem hj, Option.getD_some]
    refine (tload_in h.table (h.laid hl hB) j hj).mono ?_
    rintro e w' ⟨c, rfl, hR⟩
    rcases hR with ⟨h1, rfl, h2⟩ | ⟨h1, h3, h4, rfl, h2⟩ | ⟨h1, h3, rfl, h2⟩
    · rw [if_neg (by rw [h1]; simp), if_neg (by rw [h1]; simp)]
      exact ⟨rfl, h.tabTo h2⟩
    · rw [if_pos h1, if_pos h1, if_pos ⟨h3, h4⟩, if_pos ⟨h3, h4⟩]
      exact ⟨rfl, h.tabTo h2⟩
    · rw [if_pos h1, if_pos h1, if_neg h3, if_neg h3]
      exact ⟨rfl, h.tabTo h2⟩
  · rw [if_neg hno, if_neg hno]
    exact (tload_range h.table (h.laid hl hB) i ho).mono fun e w' ⟨h1, h2⟩ => ⟨h1, h.tabTo h2⟩
set_option maxRecDepth 100000 in
set_option maxHeartbeats 4000000 in
theorem works_any (w : World) (hl : LaidIn w) :
    Calls Tryd.prog 11 #[] w fun e w' => e = .returned (.bool true) ∧ Below w.heap.size w w' := by
  have HL := Lib.hid hl
  have hB := hl.big
  clear hl
  go_enter Tryd.func11, Tryd.ntmps11
  go_wp2_with fail
  refine (sep_tnew (Sep.start w) 4 2 (by omega) (by omega) (by omega)).mono ?_
  rintro e w1 ⟨g, p, rfl, hs⟩
  have H : Hid (Sep w.heap.size w w1 [tabOb g p 2 [0, 0, 0, 0]]) := hs
  clear hs
  go_wp2_with fail
  refine (sep_tactive H.out HL.out hB 0 0 [1, 0, 0, 0] (by decide +kernel) (by decide +kernel) (by decide +kernel)).mono ?_
  rintro e w2 ⟨rfl, hs⟩
  have H := Lib.hid hs
  clear hs
  go_wp2_with fail
  refine (sep_tactive H.out HL.out hB 0 6 [1, 0, 0, 0] (by decide +kernel) (by decide +kernel) (by decide +kernel)).mono ?_
  rintro e w3 ⟨rfl, hs⟩
  have H := Lib.hid hs
  clear hs
  go_wp2_with fail
  refine (sep_tseal H.out HL.out hB 0 0 [2, 0, 0, 0] (by decide +kernel) (by decide +kernel)).mono ?_
  rintro e w4 ⟨rfl, hs⟩
  have H := Lib.hid hs
  clear hs
  go_wp2_with fail
  refine (sep_tactive H.out HL.out hB 1 0 [2, 1, 0, 0] (by decide +kernel) (by decide +kernel) (by decide +kernel)).mono ?_
  rintro e w5 ⟨rfl, hs⟩
  have H := Lib.hid hs
  clear hs
  go_wp2_with fail
  refine (sep_tseal H.out HL.out hB 1 0 [2, 2, 0, 0] (by decide +kernel) (by decide +kernel)).mono ?_
  rintro e w6 ⟨rfl, hs⟩
  have H := Lib.hid hs
  clear hs
  go_wp2_with fail
  refine (sep_tactive H.out HL.out hB 0 11 [2, 2, 0, 0] (by decide +kernel) (by decide +kernel) (by decide +kernel)).mono ?_
  rintro e w7 ⟨rfl, hs⟩
  have H := Lib.hid hs
  clear hs
  go_wp2_with fail
  refine (sep_tchoose H.out HL.out hB 0 0 [3, 2, 0, 0] (by decide +kernel) (by decide +kernel)).mono ?_
  rintro e w8 ⟨rfl, hs⟩
  have H := Lib.hid hs
  clear hs
  go_wp2_with fail
  refine (sep_tchoose H.out HL.out hB 1 6 [3, 2, 0, 0] (by decide +kernel) (by decide +kernel)).mono ?_
  rintro e w9 ⟨rfl, hs⟩
  have H := Lib.hid hs
  clear hs
  go_wp2_with fail
  refine (sep_toutput H.out HL.out hB 2 0 [3, 2, 4, 0] (by decide +kernel) (by decide +kernel) (by decide +kernel)).mono ?_
  rintro e w10 ⟨rfl, hs⟩
  have H := Lib.hid hs
  clear hs
  go_wp2_with fail
  refine (sep_tdrop H.out HL.out hB 2 7 [3, 2, 4, 0] (by decide +kernel) (by decide +kernel)).mono ?_
  rintro e w11 ⟨rfl, hs⟩
  have H := Lib.hid hs
  clear hs
  go_wp2_with fail
  refine (sep_tdrop H.out HL.out hB 0 0 [0, 2, 4, 0] (by decide +kernel) (by decide +kernel)).mono ?_
  rintro e w12 ⟨rfl, hs⟩
  have H := Lib.hid hs
  clear hs
  go_wp2_with fail
  refine (tstate_in H.out.table 0 (by decide)).mono ?_
  rintro e w' ⟨rfl, rfl⟩
  go_wp2_with fail
  refine (tonly H.out.table 3 (by omega) (H.out.laid HL.out hB).tab 0 false (next_nil (by decide +kernel))).mono ?_
  rintro e w' ⟨rfl, rfl⟩
  go_wp2_with fail
  refine (tfree H.out.table).mono ?_
  rintro e w' ⟨rfl, rfl⟩
  have e2 : cnt [0, 2, 4, 0] 0 = 2 := by decide +kernel
  rw [e2]
  go_wp2_with fail
  go_ret
  exact ⟨rfl, H.out.bel⟩
end
end Go.Proofs.YtalonikiljcpfaaDoor

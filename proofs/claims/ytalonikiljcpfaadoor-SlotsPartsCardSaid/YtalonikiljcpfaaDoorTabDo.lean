/-
  The walks of the slots laws' begin, do and states. Conditions: the table is as New makes it; the variables hold what their texts list.
-/
import Derived.Test.YtalonikiljcpfaaDoorTabSep
import Derived.OwnWalk
namespace Go.Proofs.YtalonikiljcpfaaDoor
open Go.RowKit
set_option linter.unusedVariables false
theorem n8_nat (b : BitVec 8) : n8 b = ((b.toNat : Nat) : Int) := by unfold n8; rfl
/-- What a turn by numbers answers, and leaves. -/
def doV (T : List Nat) (r : Nat) (a s : BitVec 8) : Nat := match a.toNat % 8 with
  | 0 => takeV T 1 r
  | 1 => takeV T 1 r
  | 2 => takeV T 4 0
  | _ => s.toNat % T.length
def doE (T : List Nat) (r : Nat) (a s : BitVec 8) : Int := match a.toNat % 8 with
  | 0 => takeE T 1 r 11
  | 1 => takeE T 1 r 11
  | 2 => takeE T 4 0 4
  | 3 => chgE sealB 2 T ((s.toNat % T.length : Nat) : Int)
  | 4 => chgE chooseB 3 T ((s.toNat % T.length : Nat) : Int)
  | 5 => chgE dropB 0 T ((s.toNat % T.length : Nat) : Int)
  | 6 => chgE dropB 0 T ((s.toNat % T.length : Nat) : Int)
  | _ => chgE loadB 2 T ((s.toNat % T.length : Nat) : Int)
def doT (T : List Nat) (r : Nat) (a s : BitVec 8) : List Nat := match a.toNat % 8 with
  | 0 => takeT T 1 r
  | 1 => takeT T 1 r
  | 2 => takeT T 4 0
  | 3 => chgT sealB 2 T ((s.toNat % T.length : Nat) : Int)
  | 4 => chgT chooseB 3 T ((s.toNat % T.length : Nat) : Int)
  | 5 => chgT dropB 0 T ((s.toNat % T.length : Nat) : Int)
  | 6 => chgT dropB 0 T ((s.toNat % T.length : Nat) : Int)
  | _ => chgT loadB 2 T ((s.toNat % T.length : Nat) : Int)
theorem doT_length (T : List Nat) (r : Nat) (a s : BitVec 8) : (doT T r a s).length = T.length := by
  unfold doT
  split <;> first | exact takeT_length _ _ _ | exact chgT_length _ _ _ _
def turnV (a s : BitVec 8) : Value := .agg #[.int .u8 (n8 a), .int .u8 (n8 s)]
section
variable {B : Nat} {w0 w w' : World} {os : List Ob} {g r : Nat} {p : Nat → Nat} {T : List Nat}
set_option maxRecDepth 100000 in
set_option maxHeartbeats 4000000 in
theorem begin_any (h : Sep B w0 w os) (a b : BitVec 8) :
    Calls Tryd.prog 12 #[.int .u8 (n8 a), .int .u8 (n8 b)] w fun e w' => ∃ g p, e = .returned (.tuple #[.pointer (some ⟨g, 0, none⟩), .int .i64 ((a.toNat % 32 + 1 : Nat) : Int), .int .i64 ((b.toNat % (a.toNat % 32 + 2) : Nat) : Int)]) ∧ Sep B w0 w' (tabOb g p (b.toNat % (a.toNat % 32 + 2)) (List.replicate (a.toNat % 32 + 1) 0) :: os) := by
  obtain ⟨m, hm⟩ : ∃ m : Nat, n8 a % 32 = (m : Int) := ⟨a.toNat % 32, by rw [n8_nat]; omega⟩
  obtain ⟨n, hn⟩ : ∃ n : Nat, a.toNat % 32 + 1 = n := ⟨_, rfl⟩
  have hn2 : a.toNat % 32 + 2 = n + 1 := by omega
  rw [hn2]
  obtain ⟨k, hk⟩ : ∃ k : Nat, b.toNat % (n + 1) = k := ⟨_, rfl⟩
  have hm32 : m < 32 := by rw [n8_nat] at hm; omega
  have hmn : n = 1 + m := by rw [n8_nat] at hm; omega
  have hkn : k ≤ n := by have := Nat.mod_lt b.toNat (show 0 < n + 1 by omega); omega
  have hk2 : n8 b % ((n : Int) + 1) = (k : Int) := by rw [n8_nat, ← hk]; simp
  rw [hn, hk]
  obtain ⟨ha1, ha2⟩ := n8_bd a
  obtain ⟨hb1, hb2⟩ := n8_bd b
  have hcn : (1 : Int) + (m : Int) = (n : Int) := by omega
  have hn32 : n ≤ 32 := by omega
  have hn1 : 1 ≤ n := by omega
  have H := Lib.hid h
  have HK := Lib.hid hk2
  have hnz : ((n : Int) + 1 == 0) = false := by simp; omega
  clear h hn hn2 hk hmn hk2
  go_enter Tryd.func12, Tryd.ntmps12
  go_wp2_with fail
  have hk2 := HK.out
  go_wp2_with fail
  try rw [hk2]
  refine (sep_tnew H.out n k hn1 hn32 hkn).mono ?_
  rintro e w1 ⟨g, p, rfl, hs⟩
  have HS := Lib.hid hs
  clear hs
  go_wp2_with fail
  go_ret3
  exact ⟨g, p, rfl, HS.out⟩
set_option maxRecDepth 100000 in
set_option maxHeartbeats 8000000 in
theorem sep_do (h : Sep B w0 w (tabOb g p r T :: os)) (hl : LaidIn w0) (hB : 5 ≤ B) (a s : BitVec 8) (n : Nat) (hn : T.length = n) :
    Calls Tryd.prog 14 #[.pointer (some ⟨g, 0, none⟩), turnV a s, .int .i64 (n : Int)] w fun e w' => e = .returned (.tuple #[.int .i64 (doV T r a s : Int), .int .i64 (doE T r a s)]) ∧ Sep B w0 w' (tabOb g p r (doT T r a s) :: os) := by
  obtain ⟨k, hk⟩ : ∃ k : Nat, a.toNat % 8 = k := ⟨_, rfl⟩
  have hk8 : k < 8 := by omega
  have hka : n8 a % 8 = (k : Int) := by rw [n8_nat]; omega
  obtain ⟨i, hi⟩ : ∃ i : Nat, s.toNat % n = i := ⟨_, rfl⟩
  have hi2 : n8 s % (n : Int) = (i : Int) := by rw [n8_nat, ← hi]; simp
  obtain ⟨ha1, ha2⟩ := n8_bd a
  obtain ⟨hs1, hs2⟩ := n8_bd s
  have H : Hid (Sep B w0 (w.alloc (.cells #[.int .u8 (n8 a), .int .u8 (n8 s)] 33)) (tabOb g p r T :: os)) := h.alloc _
  have HL := Lib.hid hl
  have hn0 : 0 < n := by have := h.table.pos; omega
  have hn32 : n ≤ 32 := by have := h.table.le; omega
  have hnz : ((n : Int) == 0) = false := by simp; omega
  unfold doV doE doT
  rw [hk, hn, hi]
  have HI := Lib.hid hi2
  have HN := Lib.hid hn
  unfold turnV
  clear h hl hk hi hi2 hn
  have hk' : k = 0 ∨ k = 1 ∨ k = 2 ∨ k = 3 ∨ k = 4 ∨ k = 5 ∨ k = 6 ∨ k = 7 := by omega
  clear hk8
  rcases hk' with rfl | rfl | rfl | rfl | rfl | rfl | rfl | rfl
  · go_enter Tryd.func14, Tryd.ntmps14
    go_wp2_with fail
    try rw [HI.out]
    go_wp2_with fail
    refine (sep_tactive H.out HL.out hB _ _ _ rfl rfl rfl).mono ?_
    rintro e w1 ⟨rfl, hs⟩
    have HS := Lib.hid hs
    clear hs
    go_wp2_with fail
    go_ret2
    exact ⟨rfl, HS.out⟩
  · go_enter Tryd.func14, Tryd.ntmps14
    go_wp2_with fail
    try rw [HI.out]
    go_wp2_with fail
    refine (sep_tactive H.out HL.out hB _ _ _ rfl rfl rfl).mono ?_
    rintro e w1 ⟨rfl, hs⟩
    have HS := Lib.hid hs
    clear hs
    go_wp2_with fail
    go_ret2
    exact ⟨rfl, HS.out⟩
  · go_enter Tryd.func14, Tryd.ntmps14
    go_wp2_with fail
    try rw [HI.out]
    go_wp2_with fail
    refine (sep_toutput H.out HL.out hB _ _ _ rfl rfl rfl).mono ?_
    rintro e w1 ⟨rfl, hs⟩
    have HS := Lib.hid hs
    clear hs
    go_wp2_with fail
    go_ret2
    exact ⟨rfl, HS.out⟩
  · go_enter Tryd.func14, Tryd.ntmps14
    go_wp2_with fail
    try rw [HI.out]
    go_wp2_with fail
    refine (sep_tseal H.out HL.out hB (i : Int) _ _ rfl rfl).mono ?_
    rintro e w1 ⟨rfl, hs⟩
    have HS := Lib.hid hs
    clear hs
    go_wp2_with fail
    go_ret2
    exact ⟨rfl, HS.out⟩
  · go_enter Tryd.func14, Tryd.ntmps14
    go_wp2_with fail
    try rw [HI.out]
    go_wp2_with fail
    refine (sep_tchoose H.out HL.out hB (i : Int) _ _ rfl rfl).mono ?_
    rintro e w1 ⟨rfl, hs⟩
    have HS := Lib.hid hs
    clear hs
    go_wp2_with fail
    go_ret2
    exact ⟨rfl, HS.out⟩
  · go_enter Tryd.func14, Tryd.ntmps14
    go_wp2_with fail
    try rw [HI.out]
    go_wp2_with fail
    refine (sep_tdrop H.out HL.out hB (i : Int) _ _ rfl rfl).mono ?_
    rintro e w1 ⟨rfl, hs⟩
    have HS := Lib.hid hs
    clear hs
    go_wp2_with fail
    go_ret2
    exact ⟨rfl, HS.out⟩
  · go_enter Tryd.func14, Tryd.ntmps14
    go_wp2_with fail
    try rw [HI.out]
    go_wp2_with fail
    refine (sep_tdrop H.out HL.out hB (i : Int) _ _ rfl rfl).mono ?_
    rintro e w1 ⟨rfl, hs⟩
    have HS := Lib.hid hs
    clear hs
    go_wp2_with fail
    go_ret2
    exact ⟨rfl, HS.out⟩
  · go_enter Tryd.func14, Tryd.ntmps14
    go_wp2_with fail
    try rw [HI.out]
    go_wp2_with fail
    refine (sep_tload H.out HL.out hB (i : Int) _ _ rfl rfl).mono ?_
    rintro e w1 ⟨rfl, hs⟩
    have HS := Lib.hid hs
    clear hs
    go_wp2_with fail
    go_ret2
    exact ⟨rfl, HS.out⟩
set_option maxHeartbeats 4000000 in
theorem states_any (h : IsTab w g p r T) (n : Nat) (hn : T.length = n) :
    Calls Tryd.prog 13 #[.pointer (some ⟨g, 0, none⟩), .int .i64 (n : Int)] w fun e w' => ∃ v, e = .returned v ∧ w'.ownsRow w.heap.size 3 1 v n (nats T) ∧ Below w.heap.size w w' := by
  obtain ⟨i0, hi0, hz0, hz1, hz2⟩ := info_parts int_info
  have H := Lib.hid h
  have HN := Lib.hid hn
  have hn32 : n ≤ 32 := by have := h.le; omega
  clear h hn
  go_enter Tryd.func13, Tryd.ntmps13
  go_wp2_with fail
  go_loopg [5, 6] n (fun q v5 v6 wr => ∃ j : Nat, j + q = n ∧ v6 = .int .i64 j ∧ wr.ownsRow w.heap.size 3 1 v5 j (nats (T.take j)) ∧ Below w.heap.size w wr)
  case atStart => exact ⟨0, by omega, rfl, World.ownsRow_nil _ _ _ _, Below.refl _ _⟩
  case round =>
    obtain ⟨j, hj, rfl, ho, hb⟩ := hrel
    have hj' : j ≤ n := by omega
    have HJ := Lib.hid hj
    have HO := Lib.hid ho
    have HB := Lib.hid hb
    by_cases hlt : j < n
    · obtain ⟨A3, c3, rfl, hA3, hc3, hr3⟩ := own_slice ho
      unfold maxLen at hc3
      have hjT : j < T.length := by rw [HN.out]; exact hlt
      obtain ⟨x, hx⟩ : ∃ x, T[j] = x := ⟨_, rfl⟩
      have HT : Hid (T.take (j + 1) = T.take j ++ [x]) := by show _ = _; rw [← hx, List.take_append_getElem]
      have HS := Lib.hid (tstate_in (H.out.below hb) j hjT)
      rw [hx] at HS
      have hwB : w.heap.size ≤ wr.heap.size := HB.out.size
      clear hj ho hb hr3 hx hjT
      go_wp2_with fail
      refine HS.out.mono ?_
      rintro e w' ⟨rfl, rfl⟩
      go_wp2_with (at_builtin
                   refine wpList_append_any _ rfl (.tmp 20) (.tmp 22) _ rfl w.heap.size 3 i0 _ 1 8 Tryd.underlying27 hi0 hz0 hz1 hz2 rfl (by omega) _ j (nats (T.take j)) rfl
                     (own_below' HO.out ((Below.refl _ _).alloc (Nat.le_refl _) _)) (wr.heap.size + 1) _ 1 1 (nats [x]) rfl (reads_news wr 3 #[.int .i64 (x : Int)] (0, 0) 1 rfl) (nats_one _) (by simp only [maxLen]; omega) (by omega) (by simp; omega) ?_
                   intro v1 w4 hown1 hg1 hat1
                   have HO4 : Hid (w4.ownsRow w.heap.size 3 1 v1 (j + 1) (nats (T.take (j + 1)))) := by
                     show World.ownsRow _ _ _ _ _ _ _
                     rw [HT.out]
                     have e : nats (T.take j ++ [x]) = nats (T.take j) ++ nats [x] := by simp [nats]
                     rw [e]; exact hown1
                   have HB4 : Hid (Below w.heap.size w w4) := (HB.out.alloc (by omega) _).grown hg1 (by simp; omega) (fun q hq => (HO.out.lt q hq).1)
                   clear hown1 hg1 hat1)
      go_roundg (gk - 1)
      case measure => have := HJ.out; omega
      case rel => exact ⟨j + 1, by have := HJ.out; omega, by go_num, HO4.out, HB4.out⟩
    · have e8 : j = n := by omega
      subst e8
      clear hj ho hb
      go_wp2
      go_ret
      have := HO.out
      rw [List.take_of_length_le (by rw [HN.out]; omega)] at this
      exact ⟨_, rfl, this, HB.out⟩
/-- The slots' states, as the law keeps them. -/
def stOb (v : Value) (T : List Nat) : Ob := rowOb 3 1 v T.length (nats T)
theorem sep_states (h : Sep B w0 w os) (ht : IsTab w g p r T) (n : Nat) (hn : T.length = n) :
    Calls Tryd.prog 13 #[.pointer (some ⟨g, 0, none⟩), .int .i64 (n : Int)] w fun e w' => ∃ v, e = .returned v ∧ Sep B w0 w' (stOb v T :: os) := by
  refine (states_any ht n hn).mono ?_
  rintro e w' ⟨v, h1, h2, h3⟩
  have hT : T.length = n := hn
  refine ⟨v, h1, h.add (a := stOb v T) h3 ?_ (fun k hk => (h2.lt k hk).1)⟩
  show w'.ownsRow 0 _ _ _ _ _
  rw [hT]
  exact own_base h2 (fun k _ => Nat.zero_le k)
theorem stOb_read {v : Value} (h : (stOb v T).P w) : ∃ A c, v = .slice A T.length c ∧ T.length ≤ c ∧ c ≤ maxLen ∧ ∀ i (hi : i < T.length), ∃ ad, A = some ad ∧ w.cell? (ad.add i) = some (.int .i64 (T[i] : Int)) := by
  have h' : w.ownsRow 0 3 1 v T.length (nats T) := h
  obtain ⟨A, c, rfl, h1, h2, h3⟩ := own_slice h'
  refine ⟨A, c, rfl, h1, h2, fun i hi => ?_⟩
  obtain ⟨ad, u, e, _, hx, hc⟩ := h3.at_ hi
  refine ⟨ad, e, ?_⟩
  rw [hc]
  unfold nats at hx
  rw [List.getElem?_map, List.getElem?_eq_getElem hi] at hx
  exact hx.symm
end
end Go.Proofs.YtalonikiljcpfaaDoor

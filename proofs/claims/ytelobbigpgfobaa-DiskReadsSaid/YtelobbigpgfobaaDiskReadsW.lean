/-
  The walk of the law DiskReads: it returns true and writes nothing that was there. No condition.
-/
import Derived.Test.YtelobbigpgfobaaKturns
import Derived.Test.YtelobbigpgfobaaDshow
namespace Go.Proofs.Ytelobbigpgfobaa
open Go.RowKit
set_option linter.unusedVariables false
theorem strOf_app (l m : List (BitVec 8)) : strOf l ++ strOf m = strOf (l ++ m) := by
  apply ByteArray.ext
  apply Array.toList_inj.1
  rw [ByteArray.data_append, Array.toList_append, strOf_list, strOf_list, strOf_list, List.map_append]
theorem strOf_size (l : List (BitVec 8)) : (strOf l).size = l.length := by
  have := congrArg List.length (strOf_list l)
  rw [List.length_map, Array.length_toList] at this
  exact this
theorem reads_slice {w : World} {B : Nat} {A : Option Addr} {n a m : Nat} {l : List (BitVec 8)} (h : Reads w B 1 A n (u8s l)) (ham : a + m ≤ n) : ∀ A', (0 < m → A' = A.map fun ad => ad.add a) → Reads w B 1 A' m (u8s ((l.drop a).take m)) := fun A' hA => by
  have hl : l.length = n := by have := h.1; rw [u8s_length] at this; omega
  refine ⟨by rw [u8s_length, List.length_take, List.length_drop]; omega, fun hm => ?_⟩
  obtain ⟨ad, e, hb, hc⟩ := h.2 (by omega)
  refine ⟨ad.add a, by rw [hA (by omega), e]; rfl, by rw [block_of_add]; exact hb, fun q u hu => ?_⟩
  have hq : q < m := by have := (List.getElem?_eq_some_iff.1 hu).1; rw [u8s_length, List.length_take] at this; omega
  rw [u8s_take, List.getElem?_take, if_pos hq, u8s_drop, List.getElem?_drop] at hu
  rw [add_of_add]
  exact hc _ _ hu
set_option maxRecDepth 100000 in
set_option maxHeartbeats 16000000 in
theorem DiskReads_w (a b : BitVec 8) (A : Option Addr) (m c : Nat) (ts : Nat → Turn4) (x y z : BitVec 8) (w : World) (hr : TurnsAt w w.heap.size A m ts) (hn : m ≤ c) (hc : c ≤ maxLen) :
    Calls Try.prog 4 #[.int .u8 (n8 a), .int .u8 (n8 b), .slice A m c, .int .u8 (n8 x), .int .u8 (n8 y), .int .u8 (n8 z)] w fun e w' => e = .returned (.bool true) ∧ Below w.heap.size w w' := by
  have HR := Lib.hid hr
  unfold maxLen at hc
  clear hr
  by_cases hm : 60 < m
  · go_enter Try.func4, Try.ntmps4
    go_wp2_with fail
    refine (works_any _).mono ?_
    rintro e w9 ⟨rfl, hb⟩
    have HB := Lib.hid hb
    clear hb
    go_wp2_with fail
    go_ret
    exact ⟨rfl, HB.out⟩
  obtain ⟨hx1, hx2⟩ := n8_bd x
  obtain ⟨hy1, hy2⟩ := n8_bd y
  obtain ⟨hz1, hz2⟩ := n8_bd z
  obtain ⟨o, ho⟩ : ∃ o : Nat, n8 y % 45 = (o : Int) := ⟨y.toNat % 45, by rw [n8_nat]; omega⟩
  obtain ⟨t, ht⟩ : ∃ t : Nat, n8 z % 45 = (t : Int) := ⟨z.toNat % 45, by rw [n8_nat]; omega⟩
  have ho45 : o < 45 := by rw [n8_nat] at ho; omega
  have ht45 : t < 45 := by rw [n8_nat] at ht; omega
  have HO := Lib.hid ho
  have HT := Lib.hid ht
  clear ho ht
  go_enter Try.func4, Try.ntmps4
  go_wp2_with fail
  refine (begin_any (Sep.start w) a b).mono ?_
  rintro e w1 ⟨k, gb, gd, d, rb, lay, S, rfl, hs⟩
  have hn0 : 0 < a.toNat % 8 + 1 := by omega
  have hn8 : a.toNat % 8 + 1 ≤ 65536 := by omega
  generalize a.toNat % 8 + 1 = n at hs hn0 hn8
  generalize b.toNat % 40 + 1 = size at hs
  generalize (fun _ => (⟨size, [], 0⟩ : SlotD)) = D at hs
  have HS1 := Lib.hid hs
  have HCC : Hid (AllCells []) := fun o ho => by cases ho
  obtain ⟨i, hi⟩ : ∃ i : Nat, n8 x % (n : Int) = (i : Int) := ⟨x.toNat % n, by rw [n8_nat, Int.natCast_emod]⟩
  have hin : i < n := by rw [n8_nat, ← Int.natCast_emod] at hi; have := Nat.mod_lt x.toNat hn0; omega
  have HII := Lib.hid hi
  clear hs hi
  go_wp2_with fail
  go_loopg [14] m (fun q v14 wr => ∃ (j : Nat) (lay : Lay) (S : Nat → Prop) (D : Nat → SlotD), j + q = m ∧ v14 = .int .i64 j ∧ KSep w.heap.size w wr d rb lay S k gb gd size n D [])
  case atStart => exact ⟨0, lay, S, D, by omega, rfl, HS1.out⟩
  case round =>
    obtain ⟨j, lay, S, D, hj, rfl, hs⟩ := hrel
    have HJ := Lib.hid hj
    have hj' : j ≤ m := by omega
    have HS := Lib.hid hs
    by_cases hlt : j < m
    · obtain ⟨ad, ht⟩ := HR.out.below hs.bel j hlt
      obtain rfl := ht.a
      have c0 := ht.c0
      have c1 := ht.c1
      have c2 := ht.c2
      have c3 := ht.c3
      clear hj hs ht
      go_wp2_with fail
      refine (turn_any HS.out hn0 hn8 HCC.out _ _ _ _).mono ?_
      rintro e w3 ⟨rfl, lay3, S3, hs⟩
      have HS3 := Lib.hid hs
      clear hs c0 c1 c2 c3
      go_wp2_with fail
      go_roundg (gk - 1)
      case measure => have := HJ.out; omega
      case rel => exact ⟨j + 1, _, _, _, by have := HJ.out; omega, by go_num, HS3.out⟩
    · obtain ⟨k0, k1, k2, k3⟩ := hs.known.cells
      obtain ⟨Bj, cj, q1, q2, q3, q4, q5⟩ := hs.known.slot i hin
      obtain ⟨u1, u2, u3, u4⟩ := (show IsDisk wr d rb n lay D from hs.get (.head _)).nums hin
      obtain ⟨L, hL⟩ : ∃ L, (D i).bytes = L := ⟨_, rfl⟩
      have hL8 : L.length ≤ 8192 := by rw [← hL]; omega
      have HLL := Lib.hid hL
      rw [hL] at q1 q5
      have HQ5 := Lib.hid q5
      have HRD := Lib.hid (q5.reads hs.known.cel.lt)
      have hce := q5.1
      have hcm := q5.2.1
      unfold maxLen at hcm
      have HD : Hid (∀ W, Below wr.heap.size wr W → IsDisk W d rb n lay D) := fun W hW => (show IsDisk wr d rb n lay D from hs.get (.head _)).below hW
      have HK : Hid (∀ W, Below wr.heap.size wr W → IsKnown W S k gb gd d size n D) := fun W hW => hs.known.below hW
      have HKC : Hid (∀ W, Below wr.heap.size wr W → W.cell? ⟨k, 0, none⟩ = some (.pointer (some ⟨d, 0, none⟩))) := fun W hW => (hs.known.below hW).cells.1
      have HBW := Lib.hid hs.bel
      have hnn : ((n : Int) == 0) = false := by simp; omega
      clear hj hs q5 hL u1 u2 u3 u4
      have hlen : L.length = L.length := rfl
      clear hlen
      have hi' := HII.out
      have ho' := HO.out
      have ht' := HT.out
      go_wp2_with fail
      rw [hi', ho', ht']
      clear hi' ho' ht'
      obtain ⟨W0, rfl⟩ : ∃ W0, W0 = wr := ⟨_, rfl⟩
      by_cases hbig : L.length < o + t
      · refine (disk_read_bad (HD.out _ (Below.refl _ _)) hn0 i hin o t (by rw [HLL.out]; unfold badRead; omega)).mono ?_
        rintro e w3 ⟨rfl, hb⟩
        have HB3 := Lib.hid (bt HBW.out hb)
        clear hb k0 k1 k2 k3 q1 q2 q3 q4
        have hov : IntKind.i64.wrap ((o : Int) + (t : Int)) = (o : Int) + (t : Int) := by rw [IntKind.wrap_i64]; omega
        go_wp2_with fail
        refine (works_any _).mono ?_
        rintro e w10 ⟨rfl, hb⟩
        have HB := Lib.hid (bt HB3.out hb)
        clear hb
        go_wp2_with fail
        go_ret
        exact ⟨rfl, HB.out⟩
      · refine (disk_read_ok (HD.out _ (Below.refl _ _)) hn0 i hin o t (by rw [HLL.out]; omega)).mono ?_
        rintro e w3 ⟨v3, rfl, hown, hb⟩
        rw [HLL.out] at hown
        obtain ⟨X, hX⟩ : ∃ X, (L.drop o).take t = X := ⟨_, rfl⟩
        rw [hX] at hown
        obtain ⟨A3, c3, rfl, hc3, hr3⟩ := own_reads hown (by omega)
        have HXL : Hid (X.length = t) := by rw [← hX]; unfold Hid; rw [List.length_take, List.length_drop]; omega
        have HX := Lib.hid hX
        have HOW := Lib.hid hown
        have HR3 := Lib.hid hr3
        have HB3 := Lib.hid hb
        unfold maxLen at hc3
        have k0 := HKC.out w3 hb
        clear hb hown hr3 hX k1 k2 k3 q1 q2 q3 q4
        have hov : IntKind.i64.wrap ((o : Int) + (t : Int)) = (o : Int) + (t : Int) := by rw [IntKind.wrap_i64]; omega
        go_wp2_with fail
        go_loopg [21] (t + 1) (fun q v21 wr' => ∃ (j : Nat), j + q = t + 1 ∧ v21 = .int .i64 j ∧ Below w3.heap.size w3 wr')
        case atStart => exact ⟨0, by omega, rfl, Below.refl _ _⟩
        case round =>
          obtain ⟨j, hj, rfl, hb⟩ := hrel
          have HJ := Lib.hid hj
          have HB4 := Lib.hid (bt HB3.out hb)
          have HC4 := Lib.hid hb
          have hj' : j ≤ t + 1 := by omega
          have k0 := HKC.out _ HB4.out
          have HX4 := Lib.hid ((HR3.out.below hb).more hb.size)
          by_cases hlt : j < t + 1
          · have hjt : j ≤ t := by omega
            clear hj hb hlt
            go_wp2_with fail
            refine (disk_read_ok (HD.out _ HB4.out) hn0 i hin o j (by rw [HLL.out]; omega)).mono ?_
            rintro e w5 ⟨v5, rfl, hown, hb⟩
            rw [HLL.out] at hown
            obtain ⟨A5, c5, rfl, hc5, hr5⟩ := own_reads hown (by omega)
            have HR5 := Lib.hid hr5
            have HB5 := Lib.hid (bt HB4.out hb)
            have HC5 := Lib.hid (bt HC4.out hb)
            have HX5 := Lib.hid ((HX4.out.below hb).more hb.size)
            unfold maxLen at hc5
            clear k0
            have k0 := HKC.out w5 HB5.out
            clear hb hown hr5
            obtain ⟨p, hp⟩ : ∃ p : Nat, (o : Int) + (j : Int) = (p : Int) := ⟨o + j, by omega⟩
            obtain ⟨r, hrr⟩ : ∃ r : Nat, (t : Int) - (j : Int) = (r : Int) := ⟨t - j, by omega⟩
            go_wp2_with fail
            refine (disk_read_ok (HD.out _ HB5.out) hn0 i hin p r (by rw [HLL.out]; omega)).mono ?_
            rintro e w6 ⟨v6, rfl, hown, hb⟩
            rw [HLL.out] at hown
            obtain ⟨A6, c6, rfl, hc6, hr6⟩ := own_reads hown (by omega)
            have hr5 := (HR5.out.below hb).more hb.size
            have hx6 := (HX5.out.below hb).more hb.size
            have HB6 := Lib.hid (bt HB5.out hb)
            have HC6 := Lib.hid (bt HC5.out hb)
            obtain ⟨Zy, hZy⟩ : ∃ Z, strOf ((L.drop o).take j) = Z := ⟨_, rfl⟩
            obtain ⟨Zz, hZz⟩ : ∃ Z, strOf ((L.drop p).take r) = Z := ⟨_, rfl⟩
            obtain ⟨Zx, hZx⟩ : ∃ Z, strOf X = Z := ⟨_, rfl⟩
            have hcat : Zy ++ Zz = Zx := by
              rw [← hZy, ← hZz, ← hZx, strOf_app, ← HX.out]
              congr 1
              obtain rfl : p = o + j := by omega
              obtain rfl : r = t - j := by omega
              rw [← List.drop_drop]
              have := List.take_add (l := L.drop o) (i := j) (j := t - j)
              rw [← this]
              congr 1
              omega
            have hzs : ¬ (9223372036854775807 < Zy.size + Zz.size) := by
              have e1 : Zy.size = ((L.drop o).take j).length := by rw [← hZy]; exact strOf_size _
              have e2 : Zz.size = ((L.drop p).take r).length := by rw [← hZz]; exact strOf_size _
              rw [List.length_take] at e1 e2
              omega
            have s1 : (convert 36 9 (.slice A5 j c5)).run Try.prog w6 = .ok (.string Zy) w6 := by rw [← hZy]; exact str_bytes hr5
            have s2 : (convert 36 9 (.slice A6 r c6)).run Try.prog w6 = .ok (.string Zz) w6 := by rw [← hZz]; exact str_bytes hr6
            have s3 : (convert 36 9 (.slice A3 t c3)).run Try.prog w6 = .ok (.string Zx) w6 := by rw [← hZx]; exact str_bytes hx6
            unfold maxLen at hc6
            have HHP := Lib.hid hp
            have HHR := Lib.hid hrr
            clear hb hown hr6 hr5 hx6 k0 hZx hZy hZz hp hrr
            go_wp2_with fail
            go_roundg (gk - 1)
            case measure => have := HJ.out; omega
            case rel => exact ⟨j + 1, by have := HJ.out; omega, by go_num, HC6.out⟩
          · have hjt : t < j := by omega
            clear hj hb k0 hlt
            have hot : (o : Int) + (t : Int) ≤ (cj : Int) := by omega
            have HOR : Hid (wr.ownsRow W0.heap.size 5 1 (.slice A3 t c3) t (u8s X)) := own_below' HOW.out HC4.out
            obtain ⟨Zx, hZx⟩ : ∃ Z, strOf X = Z := ⟨_, rfl⟩
            have sl : ∀ A' c', (0 < t → A' = Bj.map fun ad => ad.add o) → (convert 36 9 (.slice A' t c')).run Try.prog wr = .ok (.string Zx) wr := fun A' c' hA => by
              rw [← hZx, ← HX.out]
              exact str_bytes (reads_slice ((HRD.out.below HB4.out).more HB4.out.size) (by omega) A' hA)
            have s5 : (convert 36 9 (.slice A3 t c3)).run Try.prog wr = .ok (.string Zx) wr := by rw [← hZx]; exact str_bytes HX4.out
            clear hZx
            by_cases hco : cj = o
            · have s4 := sl Bj 0 (fun h => by omega)
              clear sl
              go_wp2_with fail
              have ed : decide (j ≤ t) = false := by simp; omega
              try rw [ed]
              try rw [Nat.add_sub_cancel_left]
              clear ed
              go_loopg [28] t (fun q v28 wr' => ∃ (p : Nat), p + q = t ∧ v28 = .int .i64 p ∧ Below W0.heap.size W0 wr' ∧ ∃ l : List (BitVec 8), wr'.ownsRow W0.heap.size 5 1 (.slice A3 t c3) t (u8s l) ∧ l.length = t)
              case atStart => exact ⟨0, by omega, rfl, HB4.out, X, HOR.out, HXL.out⟩
              case round =>
                obtain ⟨p, hp, rfl, hb, l, hown, hl⟩ := hrel
                have HP := Lib.hid hp
                have HB7 := Lib.hid hb
                have HLL7 := Lib.hid hl
                have hpt : p ≤ t := by omega
                have k0 := HKC.out _ hb
                by_cases hlt : p < t
                · exfalso; omega
                · clear hb hown hl hp
                  go_wp2_with fail
                  refine (agrees_any (HD.out _ HB7.out) (HK.out _ HB7.out) hn0 hn8).mono ?_
                  rintro e w8 ⟨rfl, hb⟩
                  have HB8 := Lib.hid (bt HB7.out hb)
                  clear hb k0
                  go_wp2_with fail
                  refine (works_any _).mono ?_
                  rintro e w9 ⟨rfl, hb⟩
                  have HB9 := Lib.hid (bt HBW.out (bt HB8.out hb))
                  clear hb
                  go_wp2_with fail
                  go_ret
                  exact ⟨rfl, HB9.out⟩
            · have s4 := sl (Option.map (fun x => x.add o) Bj) (cj - o) (fun _ => rfl)
              clear sl
              go_wp2_with fail
              have ed : decide (j ≤ t) = false := by simp; omega
              try rw [ed]
              try rw [Nat.add_sub_cancel_left]
              clear ed
              go_loopg [28] t (fun q v28 wr' => ∃ (p : Nat), p + q = t ∧ v28 = .int .i64 p ∧ Below W0.heap.size W0 wr' ∧ ∃ l : List (BitVec 8), wr'.ownsRow W0.heap.size 5 1 (.slice A3 t c3) t (u8s l) ∧ l.length = t)
              case atStart => exact ⟨0, by omega, rfl, HB4.out, X, HOR.out, HXL.out⟩
              case round =>
                obtain ⟨p, hp, rfl, hb, l, hown, hl⟩ := hrel
                have HP := Lib.hid hp
                have HB7 := Lib.hid hb
                have HLL7 := Lib.hid hl
                have hpt : p ≤ t := by omega
                have k0 := HKC.out _ hb
                by_cases hlt : p < t
                · obtain ⟨g, cap, hv, hg⟩ : ∃ g cap, Value.slice A3 t c3 = .slice (some ⟨g, 0, none⟩) t cap ∧ W0.heap.size ≤ g := by
                    rcases hown.2 with ⟨_, h0⟩ | ⟨g, cap, cur, h', hb', _⟩
                    · omega
                    · exact ⟨g, cap, h', hb'⟩
                  injection hv with hA _ hcap
                  subst hA hcap
                  obtain ⟨bq, hbq⟩ : ∃ bq, l[p]'(by omega) = bq := ⟨_, rfl⟩
                  have hcell : wr.cell? ⟨g, p, none⟩ = some (.int .u8 (n8 bq)) := by
                    rw [hown.cellAt p (by omega), u8s_get (by omega), hbq]
                  have hfr := hown.frozenAt p
                  have hst := Lib.hid (hown.stored p (.int .u8 (n8 (bq + 1#8))))
                  have hw : IntKind.u8.wrap (n8 bq + 1) = n8 (bq + 1#8) := by
                    rw [n8_nat, n8_nat]; simp [IntKind.wrap, IntKind.bits, IntKind.signed, BitVec.toNat_add]
                  clear hb hown hl hp hbq k0
                  go_wp2_with fail
                  go_roundg (gk - 1)
                  case measure => have := HP.out; omega
                  case rel => exact ⟨p + 1, by have := HP.out; omega, by go_num, HB7.out.setCell hg _, l.set p (bq + 1#8), by rw [u8s_set]; exact hst.out.1, by rw [List.length_set]; exact HLL7.out⟩
                · clear hb hown hl hp
                  go_wp2_with fail
                  refine (agrees_any (HD.out _ HB7.out) (HK.out _ HB7.out) hn0 hn8).mono ?_
                  rintro e w8 ⟨rfl, hb⟩
                  have HB8 := Lib.hid (bt HB7.out hb)
                  clear hb k0
                  go_wp2_with fail
                  refine (works_any _).mono ?_
                  rintro e w9 ⟨rfl, hb⟩
                  have HB9 := Lib.hid (bt HBW.out (bt HB8.out hb))
                  clear hb
                  go_wp2_with fail
                  go_ret
                  exact ⟨rfl, HB9.out⟩
theorem DiskReads_walk (v0 v1 v2 v3 v4 v5 : Value) (w : World) (h0 : ArgIn Try.prog w 5 v0) (h1 : ArgIn Try.prog w 5 v1) (h2 : ArgIn Try.prog w 22 v2) (h3 : ArgIn Try.prog w 5 v3) (h4 : ArgIn Try.prog w 5 v4) (h5 : ArgIn Try.prog w 5 v5) :
    Calls Try.prog 4 #[v0, v1, v2, v3, v4, v5] w fun e w' => e = .returned (.bool true) ∧ Below w.heap.size w w' := by
  obtain ⟨m0, rfl, e0⟩ := h0.int (k := .u8) Try.underlying5
  obtain ⟨m1, rfl, e1⟩ := h1.int (k := .u8) Try.underlying5
  obtain ⟨m3, rfl, e3⟩ := h3.int (k := .u8) Try.underlying5
  obtain ⟨m4, rfl, e4⟩ := h4.int (k := .u8) Try.underlying5
  obtain ⟨m5, rfl, e5⟩ := h5.int (k := .u8) Try.underlying5
  obtain ⟨b0, rfl⟩ := u8_of_wf e0
  obtain ⟨b1, rfl⟩ := u8_of_wf e1
  obtain ⟨b3, rfl⟩ := u8_of_wf e3
  obtain ⟨b4, rfl⟩ := u8_of_wf e4
  obtain ⟨b5, rfl⟩ := u8_of_wf e5
  obtain ⟨A, n, c, ts, rfl, k1, k2, k3⟩ := turns_arg h2
  exact DiskReads_w b0 b1 A n c ts b3 b4 b5 w k3 k1 k2
end Go.Proofs.Ytelobbigpgfobaa

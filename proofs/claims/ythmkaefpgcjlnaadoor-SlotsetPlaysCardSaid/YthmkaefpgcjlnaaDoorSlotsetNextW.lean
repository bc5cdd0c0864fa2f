/-
  The walk of the law SlotsetNext: it returns true and writes nothing that was there. Condition: the library's table holds what its text lists.
-/
import Derived.Test.YthmkaefpgcjlnaaDoorSetHelp
import Derived.Deep.QuietTactic
import Derived.BigQuiet
namespace Go.Proofs.YthmkaefpgcjlnaaDoor
open Go.RowKit Go.Shelf
set_option linter.unusedVariables false
theorem slots_sorted (L : List Bool) : (slotsOf L).Pairwise (· < ·) := List.pairwise_lt_range.filter _
theorem slots_mem (L : List Bool) (i : Nat) : i ∈ slotsOf L ↔ inL L i = true := by
  unfold slotsOf
  rw [List.mem_filter, List.mem_range]
  exact ⟨fun h => h.2, fun h => ⟨inL_lt h, h⟩⟩
/-- The number from which the next slot is asked for, behind the first j slots. -/
structure LowAt (L : List Bool) (j : Nat) (fr : Int) : Prop where
  lo : -4611686018427387904 ≤ fr
  hi : fr ≤ 100
  below : ∀ q (hq : q < (slotsOf L).length), q < j → ((slotsOf L)[q] : Int) < fr
  above : ∀ q (hq : q < (slotsOf L).length), j ≤ q → fr ≤ ((slotsOf L)[q] : Int)
theorem LowAt.start (L : List Bool) : LowAt L 0 (-4611686018427387904) := ⟨by omega, by omega, fun q hq h => by omega, fun q hq h => by omega⟩
theorem LowAt.next {L : List Bool} {j : Nat} {fr : Int} (h : LowAt L j fr) (hL : L.length ≤ 34) (hj : j < (slotsOf L).length) : LowAt L (j + 1) ((slotsOf L)[j] + 1) := by
  have hs := List.pairwise_iff_getElem.1 (slots_sorted L)
  have hm : (slotsOf L)[j] < L.length := inL_lt ((slots_mem L _).1 (List.getElem_mem hj))
  refine ⟨by omega, by omega, fun q hq h => ?_, fun q hq h => ?_⟩
  · by_cases e : q = j
    · subst e; omega
    · have := hs q j hq hj (by omega); omega
  · have := hs j q hj hq (by omega); omega
theorem LowAt.is {L : List Bool} {j : Nat} {fr : Int} (h : LowAt L j fr) (hj : j < (slotsOf L).length) : NextIs L fr (slotsOf L)[j] true := by
  have hs := List.pairwise_iff_getElem.1 (slots_sorted L)
  refine .inl ⟨rfl, (slots_mem L _).1 (List.getElem_mem hj), h.above j hj (Nat.le_refl _), fun i hi hf => ?_⟩
  cases hb : inL L i with
  | false => rfl
  | true =>
    obtain ⟨q, hq, e⟩ := List.getElem_of_mem ((slots_mem L i).2 hb)
    by_cases hqj : q < j
    · have := h.below q hq hqj; omega
    · by_cases e2 : q = j
      · subst e2; omega
      · have := hs j q hj hq (by omega); omega
theorem LowAt.done {L : List Bool} {fr : Int} (h : LowAt L (slotsOf L).length fr) : NextIs L fr 0 false := by
  refine .inr ⟨rfl, rfl, fun i hf => ?_⟩
  cases hb : inL L i with
  | false => rfl
  | true =>
    obtain ⟨q, hq, e⟩ := List.getElem_of_mem ((slots_mem L i).2 hb)
    have := h.below q hq hq; omega
theorem Sep.grow {B : Nat} {w0 w w' : World} {os : List Ob} {e : TypeId} {sz n n' : Nat} {v v' : Value} {xs xs' : List Value} (h : Sep B w0 w (rowOb e sz v n xs :: os)) (ho : w'.ownsRow 0 e sz v' n' xs') (hg : w.grownBy w' v.ownBlock) (hat : v'.ownBlock = v.ownBlock ∨ v'.ownBlock = some w.heap.size) :
    Sep B w0 w' (rowOb e sz v' n' xs' :: os) :=
  h.step (a' := rowOb e sz v' n' xs') ((Chg.refl (rowOb e sz v n xs).F w).grown hg (fun q hq => .inl hq)) ho (fun k hk => by
    have hk' : v'.ownBlock = some k := hk
    rcases hat with e | e
    · exact .inl (by show v.ownBlock = some k; rw [← e]; exact hk')
    · rw [e] at hk'; injection hk' with hk'; exact .inr (by omega))
theorem nats_at {l : List Nat} {j : Nat} (hj : j < l.length) : (nats l)[j]? = some (.int .i64 ((l[j] : Nat) : Int)) := by simp [nats, hj]
set_option maxHeartbeats 4000000 in
set_option maxRecDepth 100000 in
theorem SlotsetNext_w (sz : BitVec 8) (A1 : Option Addr) (n1 c1 : Nat) (l1 : List (BitVec 8)) (w : World) (ht : TabIn w) (hr1 : Reads w w.heap.size 1 A1 n1 (u8s l1)) (hm1 : n1 ≤ maxLen) :
    Calls Tryd.prog 4 #[.int .u8 (n8 sz), .slice A1 n1 c1] w fun e w' => e = .returned (.bool true) ∧ Below w.heap.size w w' := by
  have HT := Lib.hid ht
  have hp := ht.pos
  have HR1 := Lib.hid hr1
  unfold maxLen at hm1
  obtain ⟨hz1, hz2⟩ := n8_bd sz
  obtain ⟨i0, hi0, hz0, hzz1, hzz2⟩ := info_parts int_info
  clear ht hr1
  by_cases h1 : 200 < n1
  · go_enter Tryd.func4, Tryd.ntmps4
    go_wp2_with fail
    refine (works_any _ HT.out).mono ?_
    rintro e w12 ⟨rfl, hb⟩
    go_wp2
    go_ret
    exact ⟨rfl, hb⟩
  · go_enter Tryd.func4, Tryd.ntmps4
    go_wp2_with fail
    refine (sep_filled (Sep.start w) sz _ _ _ l1 HR1.out (by omega)).mono ?_
    rintro e w1 ⟨g, bi, n, L, rfl, hn, hN, hs, hb⟩
    have HL := Lib.hid hn
    have hlen := hs.len
    have hn34 : n ≤ 34 := by omega
    have hE := slotsOf_le L
    have hEn : (slotsOf L).length ≤ n := by omega
    have H : Hid (Sep w.heap.size w w1 [rowOb 3 1 (.slice none 0 0) 0 [], setOb g L, bvOb bi L]) := hs.add (a := rowOb 3 1 (.slice none 0 0) 0 []) (Below.refl _ _) (World.ownsRow_nil _ _ _ _) (fun k hk => by cases hk)
    have HLL : Hid (L.length ≤ 34) := hlen.2
    clear hs hN hb hlen hn hE
    go_wp2_with fail
    go_loopg [7, 8, 9, 10, 11] (slotsOf L).length (fun q v7 v8 v9 v10 v11 wr => ∃ (j : Nat) (fr : Int), j + q = (slotsOf L).length ∧ v8 = .int .i64 fr ∧ v9 = .int .i64 j ∧ LowAt L j fr ∧ Sep w.heap.size w wr [rowOb 3 1 v7 j (nats ((slotsOf L).take j)), setOb g L, bvOb bi L])
    case atStart => exact ⟨0, _, by omega, rfl, rfl, LowAt.start L, H.out⟩
    case round =>
      obtain ⟨j, fr, hj, rfl, rfl, hlow, hs⟩ := hrel
      have hj' : j ≤ (slotsOf L).length := by omega
      have HJ := Lib.hid hj
      have H := Lib.hid hs
      have HLOW := Lib.hid hlow
      have hfr1 := hlow.lo
      have hfr2 := hlow.hi
      have hset : HasSet wr g L := hs.get (.tail _ (.head _))
      have HSET := Lib.hid hset
      have HTW := Lib.hid (hs.tab HT.out hp)
      have ho7 : World.ownsRow _ _ _ _ _ _ _ := hs.get (.head _)
      obtain ⟨A7, c7, rfl, hA7, hc7, hr7⟩ := own_slice ho7
      unfold maxLen at hc7
      clear hj hs hlow hset hr7 ho7
      by_cases hlt : j < (slotsOf L).length
      · obtain ⟨x, hx⟩ : ∃ x, (slotsOf L)[j] = x := ⟨_, rfl⟩
        have hnx := next_of HSET.out HTW.out fr (by omega) _ true (HLOW.out.is hlt)
        have hl2 := HLOW.out.next HLL.out hlt
        rw [hx] at hnx hl2
        have HNX := Lib.hid hnx
        have HL2 := Lib.hid hl2
        have hxb : x < 100 := by have := hl2.hi; omega
        have HTK : Hid (nats ((slotsOf L).take (j + 1)) = nats ((slotsOf L).take j) ++ nats [x]) := by show _ = _; rw [List.take_succ_eq_append_getElem hlt, hx]; simp [nats]
        clear hnx hl2 hx
        go_wp2_with fail
        refine HNX.out.mono ?_
        rintro e w' ⟨rfl, rfl⟩
        go_wp2_with (at_builtin
                     refine wpList_append_any _ rfl (.tmp 40) (.tmp 42) _ rfl 0 3 i0 _ 1 8 Tryd.underlying29 hi0 hz0 hzz1 hzz2 rfl (by omega) _ j (nats ((slotsOf L).take j)) rfl
                       ((H.out.alloc (.cells #[.int .i64 (x : Int)] 3)).get (.head _)) (wr.heap.size + 1) _ 1 1 (nats [x]) rfl (reads_news wr 3 #[.int .i64 (x : Int)] (0, 0) 1 rfl) (nats_one _) (by simp only [maxLen]; omega) (by omega) (Nat.zero_le _) ?_
                     intro v1 w4 hown1 hg1 hat1
                     rw [← HTK.out] at hown1
                     have H4 := Lib.hid ((H.out.alloc (.cells #[.int .i64 (x : Int)] 3)).grow hown1 hg1 hat1)
                     clear hown1 hg1 hat1)
        go_roundg (gk - 1)
        case measure => have := HJ.out; omega
        case rel => exact ⟨j + 1, _, by have := HJ.out; omega, rfl, by go_num, HL2.out, H4.out⟩
      · have e8 : j = (slotsOf L).length := by omega
        have hnx := next_of HSET.out HTW.out fr (by omega) 0 false (by have := HLOW.out; rw [e8] at this; exact this.done)
        have HNX := Lib.hid hnx
        have H : Hid (Sep w.heap.size w wr [rowOb 3 1 (.slice A7 j c7) j (nats (slotsOf L)), setOb g L, bvOb bi L]) := by have := H.out; rw [List.take_of_length_le (by omega)] at this; exact this
        have HE8 : Hid ((slotsOf L).length = j) := e8.symm
        clear hnx e8
        go_wp2_with fail
        refine HNX.out.mono ?_
        rintro e w' ⟨rfl, rfl⟩
        go_wp2_with fail
        refine (sep_slots H.out _ n n (by rw [← HL.out]; omega) (bv_reads (H.out.get (.tail _ (.tail _ (.head _)))) n HL.out) j HE8.out).mono ?_
        rintro e w5 ⟨A5, c5, rfl, hs, hb, hr⟩
        have H5 := Lib.hid hs
        have HR5 := Lib.hid hr
        have HR7 := Lib.hid (Reads.of_own (show w5.ownsRow 0 3 1 (.slice A7 j c7) j (nats (slotsOf L)) from hs.get (.head _)))
        clear hs hb hr
        go_wp2_with fail
        go_loopg [13] j (fun q v13 wx => ∃ (k : Nat), k + q = j ∧ v13 = .int .i64 k ∧ Below w5.heap.size w5 wx)
        case atStart => exact ⟨0, by omega, rfl, Below.refl _ _⟩
        case round =>
          obtain ⟨k, hk, rfl, hbx⟩ := hrel
          have HK := Lib.hid hk
          have HBX := Lib.hid hbx
          by_cases hlt2 : k < j
          · have hkE : k < (slotsOf L).length := by rw [HE8.out]; exact hlt2
            obtain ⟨ad5, u, rfl, hab5, hx5, hc5⟩ := (HR5.out.below hbx).at_ hlt2
            obtain ⟨ad7, u7, rfl, hab7, hx7, hc7'⟩ := (HR7.out.below hbx).at_ hlt2
            rw [nats_at hkE] at hx5 hx7
            simp only [Option.some.injEq] at hx5 hx7
            subst hx5 hx7
            generalize (slotsOf L)[k] = x at hc5 hc7'
            have hd : ((x : Int) != (x : Int)) = false := by simp
            clear hk hbx
            go_wp2_with fail
            go_quiet (fail)
            go_wp2_with fail
            go_roundg (gk - 1)
            case measure => have := HK.out; omega
            case rel => exact ⟨k + 1, by have := HK.out; omega, by go_num, HBX.out.trans ⟨rfl, rfl, rfl, Nat.le_refl _, fun _ _ => rfl⟩⟩
          · have e9 : k = j := by omega
            subst e9
            clear hk hbx
            go_wp2_with fail
            refine (works_any _ ((H5.out.below HBX.out).tab HT.out hp)).mono ?_
            rintro e w15 ⟨rfl, hb⟩
            go_wp2
            go_ret
            exact ⟨rfl, bt (H5.out.below HBX.out).bel hb⟩
theorem SlotsetNext_walk (v0 v1 : Value) (w : World) (ht : TabIn w) (h0 : ArgIn Tryd.prog w 5 v0) (h1 : ArgIn Tryd.prog w 22 v1) :
    Calls Tryd.prog 4 #[v0, v1] w fun e w' => e = .returned (.bool true) ∧ Below w.heap.size w w' := by
  obtain ⟨n, rfl, w2⟩ := h0.int Tryd.underlying5
  obtain ⟨b, rfl⟩ := u8_of_wf w2
  obtain ⟨A1, n1, c1, l1, rfl, _, hm1, hr1⟩ := h1.bytes
  exact SlotsetNext_w b A1 n1 c1 l1 w ht hr1 hm1
end Go.Proofs.YthmkaefpgcjlnaaDoor

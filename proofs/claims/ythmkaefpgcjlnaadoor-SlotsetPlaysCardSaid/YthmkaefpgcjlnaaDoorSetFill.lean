/-
  The walks of the slot set laws' helpers: set, slots, filled; a set's Copy. Conditions: sizes from 1 to 34; what is read can be read.
-/
import Derived.Test.YthmkaefpgcjlnaaDoorSetOps2
import Derived.Laws.MakeOwn
import Derived.Deep.OwnRows
namespace Go.Proofs.YthmkaefpgcjlnaaDoor
open Go.RowKit Go.Shelf
set_option linter.unusedVariables false
theorem hbase {w w' : World} (h : Below w.heap.size w w') : w.heap.size ≤ w'.heap.size := h.size
/-- A number in a set's range is added or removed. -/
def setAt (L : List Bool) (j : Int) (v : Bool) : List Bool := if 0 ≤ j ∧ j < L.length then L.set j.toNat v else L
def errAt (L : List Bool) (j : Int) : Int := if 0 ≤ j ∧ j < L.length then 0 else 3
theorem setAt_length (L : List Bool) (j : Int) (v : Bool) : (setAt L j v).length = L.length := by unfold setAt; split <;> simp
def addAll (L : List Bool) (is : List Int) : List Bool := is.foldl (fun L i => setAt L i true) L
theorem addAll_length (L : List Bool) (is : List Int) : (addAll L is).length = L.length := by
  induction is generalizing L with
  | nil => rfl
  | cons i is ih => show (addAll (setAt L i true) is).length = _; rw [ih, setAt_length]
theorem addAll_snoc (L : List Bool) (is : List Int) (i : Int) : addAll L (is ++ [i]) = setAt (addAll L is) i true := by simp [addAll, List.foldl_append]
section
variable {w : World} {g t : Nat} {L M : List Bool}
theorem add_any (h : HasSet w g L) (j : Int) :
    Calls Tryd.prog 25 #[.pointer (some ⟨g, 0, none⟩), .int .i64 j] w fun e w' => e = .returned (.int .i64 (errAt L j)) ∧ HasSet w' g (setAt L j true) ∧ Chg (fun k => k = g) w w' := by
  unfold errAt setAt
  by_cases hj : 0 ≤ j ∧ j < L.length
  · obtain ⟨k, rfl⟩ := Int.eq_ofNat_of_zero_le hj.1
    rw [if_pos hj, if_pos hj]
    exact add_of h k (by omega)
  · rw [if_neg hj, if_neg hj]
    refine (add_out h j (by omega)).mono ?_
    rintro e w' ⟨rfl, rfl⟩
    exact ⟨rfl, h, Chg.refl _ _⟩
theorem remove_any (h : HasSet w g L) (j : Int) :
    Calls Tryd.prog 26 #[.pointer (some ⟨g, 0, none⟩), .int .i64 j] w fun e w' => e = .returned (.int .i64 (errAt L j)) ∧ HasSet w' g (setAt L j false) ∧ Chg (fun k => k = g) w w' := by
  unfold errAt setAt
  by_cases hj : 0 ≤ j ∧ j < L.length
  · obtain ⟨k, rfl⟩ := Int.eq_ofNat_of_zero_le hj.1
    rw [if_pos hj, if_pos hj]
    exact remove_of h k (by omega)
  · rw [if_neg hj, if_neg hj]
    refine (remove_out h j (by omega)).mono ?_
    rintro e w' ⟨rfl, rfl⟩
    exact ⟨rfl, h, Chg.refl _ _⟩
def hasAt (L : List Bool) (j : Int) : Bool := decide (0 ≤ j) && inL L j.toNat
theorem has_any (h : HasSet w g L) (j : Int) :
    Calls Tryd.prog 16 #[.pointer (some ⟨g, 0, none⟩), .int .i64 j] w fun e w' => e = .returned (.bool (hasAt L j)) ∧ w = w' := by
  unfold hasAt
  by_cases hj : 0 ≤ j
  · obtain ⟨k, rfl⟩ := Int.eq_ofNat_of_zero_le hj
    rw [decide_eq_true hj, Bool.true_and, Int.toNat_natCast]
    by_cases hk : k < L.length
    · exact has_of h k hk
    · rw [inL_ge (by omega)]
      exact has_out h k (.inr (by omega))
  · rw [decide_eq_false hj, Bool.false_and]
    exact has_out h j (.inl (by omega))
set_option maxHeartbeats 1000000 in
theorem copy_of (h : HasSet w g L) :
    Calls Tryd.prog 33 #[.pointer (some ⟨g, 0, none⟩)] w fun e w' => e = .returned (.pointer (some ⟨w.heap.size, 0, none⟩)) ∧ HasSet w' w.heap.size L ∧ Below w.heap.size w w' := by
  have hv := valid_of h
  have hg := h.lt
  obtain ⟨b, h⟩ := h
  have q0 : w.cell? ⟨g, 0, none⟩ = some (.int .i64 (L.length : Int)) := h.blk.cell 0
  have q1 : w.cell? ⟨g, 1, none⟩ = some (.int .u64 (n64 b)) := h.blk.cell 1
  have H := Lib.hid hv
  have H2 := Lib.hid h
  clear h hv
  go_enter Tryd.func33, Tryd.ntmps33
  go_wp2_with fail
  refine H.out.mono ?_
  rintro e w' ⟨rfl, rfl⟩
  go_wp2_with fail
  go_ret
  refine ⟨rfl, ⟨b, ?_, H2.out.pos, H2.out.le, H2.out.bits⟩, by go_grown⟩
  exact Blk.new w 64 #[.int .i64 (L.length : Int), .int .u64 (n64 b)]
end
/-! ### lists of numbers -/
def ints (l : List Int) : List Value := l.map (Value.int .i64)
theorem ints_length (l : List Int) : (ints l).length = l.length := by simp [ints]
def nats (l : List Nat) : List Value := l.map fun (i : Nat) => Value.int .i64 (i : Int)
theorem nats_length (l : List Nat) : (nats l).length = l.length := by simp [nats]
theorem nats_one (l : List Nat) : ∀ u ∈ nats l, u.oneCell' = true := by
  intro u hu
  simp only [nats, List.mem_map] at hu
  obtain ⟨b, _, rfl⟩ := hu
  rfl
theorem int_info : (Tryd.prog.info? 3).map (fun i => (i.zero, i.size, i.bytes)) = some (some (.int .i64 0), 1, 8) := by kernel_rfl
theorem bool_info : (Tryd.prog.info? 4).map (fun i => (i.zero, i.size, i.bytes)) = some (some (.bool false), 1, 1) := by kernel_rfl
theorem reads_news (W : World) (t : TypeId) (cs : Array Value) (fr : Nat × Nat) (n : Nat) (hn : n = cs.size) :
    Reads (W.alloc (.cells cs t fr)) (W.heap.size + 1) 1 (some ⟨W.heap.size, 0, none⟩) n cs.toList := by
  subst hn
  refine ⟨by simp, fun _ => ⟨_, rfl, by simp, fun j u hu => ?_⟩⟩
  rw [add_zero_addr, cell_of_row _ _ j _ t fr (heap_alloc_new W _)]
  simpa using hu
set_option maxHeartbeats 1000000 in
/-- The law's set, its size allowed. -/
theorem set_any (n : Nat) (h1 : 1 ≤ n) (h2 : n ≤ 34) (A : Option Addr) (m c : Nat) (is : List Int) (w : World) (hr : Reads w w.heap.size 1 A m (ints is)) (hm : m ≤ 65536) :
    Calls Tryd.prog 22 #[.int .i64 (n : Int), .slice A m c] w fun e w' => ∃ g, e = .returned (.pointer (some ⟨g, 0, none⟩)) ∧ HasSet w' g (addAll (List.replicate n false) is) ∧ w.heap.size ≤ g ∧ Below w.heap.size w w' := by
  have hlen : is.length = m := by have := hr.1; rw [ints_length] at this; omega
  have HR := Lib.hid hr
  have HL := Lib.hid hlen
  clear hr hlen
  go_enter Tryd.func22, Tryd.ntmps22
  go_wp2_with fail
  refine (new_set n w h1 h2).mono ?_
  rintro e w1 ⟨rfl, hs, hb⟩
  have HS := Lib.hid hs
  have HB := Lib.hid hb
  clear hs hb
  go_wp2_with fail
  go_loopg [7] m (fun q v7 wr => ∃ j : Nat, j + q = m ∧ v7 = .int .i64 j ∧ HasSet wr w.heap.size (addAll (List.replicate n false) (is.take j)) ∧ Below w.heap.size w wr)
  case atStart => exact ⟨0, by omega, rfl, HS.out, HB.out⟩
  case round =>
    obtain ⟨j, hj, rfl, hs, hb⟩ := hrel
    have hj' : j ≤ m := by omega
    have HJ := Lib.hid hj
    have HS := Lib.hid hs
    have HB := Lib.hid hb
    by_cases hlt : j < m
    · obtain ⟨ad, u, rfl, hab, hx, hc⟩ := (HR.out.below hb).at_ hlt
      have hji : j < is.length := by rw [HL.out]; exact hlt
      simp only [ints, List.getElem?_map, List.getElem?_eq_getElem hji, Option.map_some, Option.some.injEq] at hx
      subst hx
      have HT : Hid (is.take (j + 1) = is.take j ++ [is[j]]) := take_snoc is j hji
      clear hj hs hb
      go_wp2_with fail
      refine (add_any HS.out _).mono ?_
      rintro e w2 ⟨rfl, hs, hch⟩
      have HS2 : Hid (HasSet w2 w.heap.size (addAll (List.replicate n false) (is.take (j + 1)))) := by show HasSet _ _ _; rw [HT.out, addAll_snoc]; exact hs
      have HB2 : Hid (Below w.heap.size w w2) := HB.out.trans (hch.below (by have := HB.out.size; omega) (fun k hk => by omega))
      clear hs hch
      go_wp2
      go_roundg (gk - 1)
      case measure => have := HJ.out; omega
      case rel => exact ⟨j + 1, by have := HJ.out; omega, by go_num, HS2.out, HB2.out⟩
    · have e8 : j = m := by omega
      subst e8
      clear hj hs hb
      go_wp2
      go_ret
      refine ⟨_, rfl, ?_, Nat.le_refl _, HB.out⟩
      have := HS.out
      rw [List.take_of_length_le (by rw [HL.out]; omega)] at this
      exact this
theorem slots_to (L : List Bool) (j : Nat) : ((List.range (j + 1)).filter fun i => inL L i) = if inL L j then ((List.range j).filter fun i => inL L i) ++ [j] else ((List.range j).filter fun i => inL L i) := by
  rw [List.range_succ, List.filter_append]
  by_cases h : inL L j = true
  · simp [h]
  · simp [h]
def slotsTo (L : List Bool) (j : Nat) : List Nat := (List.range j).filter fun i => inL L i
theorem slotsTo_le (L : List Bool) (j : Nat) : (slotsTo L j).length ≤ j := by
  unfold slotsTo
  exact Nat.le_trans (List.length_filter_le _ _) (by simp)
def bvals (L : List Bool) : List Value := L.map Value.bool
theorem bvals_length (L : List Bool) : (bvals L).length = L.length := by simp [bvals]
theorem bvals_at {L : List Bool} {k : Nat} (hk : k < L.length) : (bvals L)[k]? = some (.bool (inL L k)) := by
  simp [bvals, inL, hk]
set_option maxHeartbeats 2000000 in
/-- The law's slots. -/
theorem slots_any (L : List Bool) (hL : L.length ≤ 65536) (A : Option Addr) (n c : Nat) (w : World) (hr : Reads w w.heap.size 1 A n (bvals L)) :
    Calls Tryd.prog 15 #[.slice A n c] w fun e w' => ∃ v, e = .returned v ∧ w'.ownsRow w.heap.size 3 1 v (slotsOf L).length (nats (slotsOf L)) ∧ Below w.heap.size w w' := by
  obtain ⟨i0, hi0, hz0, hz1, hz2⟩ := info_parts int_info
  have hlen : L.length = n := by have := hr.1; rw [bvals_length] at this; omega
  have HR := Lib.hid hr
  have HL := Lib.hid hlen
  have hn : n ≤ 65536 := by omega
  clear hr hlen hL
  go_enter Tryd.func15, Tryd.ntmps15
  go_wp2_with fail
  go_loopg [3, 4] n (fun q v3 v4 wr => ∃ j : Nat, j + q = n ∧ v4 = .int .i64 j ∧ wr.ownsRow w.heap.size 3 1 v3 (slotsTo L j).length (nats (slotsTo L j)) ∧ Below w.heap.size w wr)
  case atStart => exact ⟨0, by omega, rfl, World.ownsRow_nil _ _ _ _, Below.refl _ _⟩
  case round =>
    obtain ⟨j, hj, rfl, ho, hb⟩ := hrel
    have hj' : j ≤ n := by omega
    have HJ := Lib.hid hj
    have HO := Lib.hid ho
    have HB := Lib.hid hb
    by_cases hlt : j < n
    · obtain ⟨ad, u, rfl, hab, hx, hc⟩ := (HR.out.below hb).at_ hlt
      have hjl : j < L.length := by rw [HL.out]; exact hlt
      rw [bvals_at hjl] at hx
      simp only [Option.some.injEq] at hx
      subst hx
      have hst := slots_to L j
      have hle := slotsTo_le L j
      cases hin : inL L j with
      | true =>
        rw [hin] at hc hst
        have HT : Hid (slotsTo L (j + 1) = slotsTo L j ++ [j]) := hst
        obtain ⟨A3, c3, rfl, hA3, hc3, hr3⟩ := own_slice ho
        unfold maxLen at hc3
        clear hst hj ho hb hr3 hin
        have hwB : w.heap.size ≤ wr.heap.size := HB.out.size
        go_wp2_with (at_builtin
                     refine wpList_append_any _ rfl (.tmp 15) (.tmp 17) _ rfl w.heap.size 3 i0 _ 1 8 Tryd.underlying29 hi0 hz0 hz1 hz2 rfl (by omega) _ (slotsTo L j).length (nats (slotsTo L j)) rfl
                       (own_below' HO.out ((Below.refl _ _).alloc (Nat.le_refl _) _)) (wr.heap.size + 1) _ 1 1 (nats [j]) rfl (reads_news wr 3 #[.int .i64 (j : Int)] (0, 0) 1 rfl) (nats_one _) (by simp only [maxLen]; omega) (by omega) (by simp; omega) ?_
                     intro v1 w4 hown1 hg1 hat1
                     have HO4 : Hid (w4.ownsRow w.heap.size 3 1 v1 (slotsTo L (j + 1)).length (nats (slotsTo L (j + 1)))) := by
                       show World.ownsRow _ _ _ _ _ _ _
                       rw [HT.out, List.length_append]
                       have e : nats (slotsTo L j ++ [j]) = nats (slotsTo L j) ++ nats [j] := by simp [nats]
                       rw [e]; exact hown1
                     have HB4 : Hid (Below w.heap.size w w4) := (HB.out.alloc (by omega) _).grown hg1 (by simp; omega) (fun q hq => (HO.out.lt q hq).1)
                     clear hown1 hg1 hat1)
        go_roundg (gk - 1)
        case measure => have := HJ.out; omega
        case rel => exact ⟨j + 1, by have := HJ.out; omega, by go_num, HO4.out, HB4.out⟩
      | false =>
        rw [hin] at hc hst
        have HT : Hid (slotsTo L (j + 1) = slotsTo L j) := hst
        clear hst hj ho hb hin
        go_wp2
        go_roundg (gk - 1)
        case measure => have := HJ.out; omega
        case rel => exact ⟨j + 1, by have := HJ.out; omega, by go_num, by rw [HT.out]; exact HO.out, HB.out⟩
    · have e8 : j = n := by omega
      subst e8
      clear hj ho hb
      go_wp2
      go_ret
      refine ⟨_, rfl, ?_, HB.out⟩
      have := HO.out
      have e : slotsTo L j = slotsOf L := by unfold slotsTo slotsOf; rw [HL.out]
      rw [e] at this
      exact this
end Go.Proofs.YthmkaefpgcjlnaaDoor

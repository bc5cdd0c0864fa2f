/-
  The document's table of slots: its methods. Conditions: the table is as its New makes it (its row of states is the call's own).
-/
import Derived.Test.YtalonikiljcpfaaDoorTabSame
import Derived.Test.YtalonikiljcpfaaDoorTabSep
import Derived.Deep.AppendLies
import Derived.Laws.OwnMore
namespace Go.Proofs.YtalonikiljcpfaaDoor
open Go.RowKit
set_option linter.unusedVariables false
structure RTab (w : World) (g b r : Nat) (T : List Nat) : Prop where
  ex : ∃ c, Blk w g 84 #[.slice (some ⟨b, 0, none⟩) T.length c, .int .i64 (r : Int)] ∧ w.ownsRow 0 3 1 (.slice (some ⟨b, 0, none⟩) T.length c) T.length (nats T)
  ne : b ≠ g
  pos : 0 < T.length
  le : T.length ≤ 32
  res : r ≤ T.length
  all : ∀ x, x ∈ T → x < 5
def rfoot (g b : Nat) : Nat → Prop := fun k => k = g ∨ k = b
section
variable {w w' : World} {g b r : Nat} {T : List Nat}
theorem RTab.chg {F : Nat → Prop} (h : RTab w g b r T) (hc : Chg F w w') (hF : ∀ k, rfoot g b k → ¬ F k) : RTab w' g b r T := by
  obtain ⟨⟨c, h1, h2⟩, h3, h4, h5, h6, h7⟩ := h
  exact ⟨⟨c, h1.chg hc (hF _ (.inl rfl)), own_chg h2 hc (fun k hk => hF k (.inr (by simpa [Value.ownBlock] using hk.symm)))⟩, h3, h4, h5, h6, h7⟩
theorem RTab.lt (h : RTab w g b r T) : ∀ k, rfoot g b k → k < w.heap.size := by
  obtain ⟨⟨c, h1, h2⟩, h3, h4, h5, h6, h7⟩ := h
  intro k hk
  rcases hk with rfl | rfl
  · exact h1.lt
  · exact (h2.lt _ rfl).2
theorem RTab.below (h : RTab w g b r T) (hb : Below w.heap.size w w') : RTab w' g b r T := h.chg (F := fun _ => False) (Chg.of_below hb) (fun _ _ h => h)
theorem RTab.drew (h : RTab w g b r T) : RTab w.drew g b r T := h.below ((Below.refl _ _).drew)
def rtabOb (g b r : Nat) (T : List Nat) : Ob where
  P w := RTab w g b r T
  F := rfoot g b
  keep := fun hc hd h => h.chg hc hd
  lt := fun h => h.lt
theorem RTab.parts (h : RTab w g b r T) : ∃ c, w.cell? ⟨g, 0, none⟩ = some (.slice (some ⟨b, 0, none⟩) T.length c) ∧ w.cell? ⟨g, 1, none⟩ = some (.int .i64 (r : Int)) ∧ (∀ j (hj : j < T.length), w.cell? ⟨b, j, none⟩ = some (.int .i64 (T[j] : Int))) ∧ Reads w w.heap.size 1 (some ⟨b, 0, none⟩) T.length (nats T) ∧ c ≤ maxLen := by
  obtain ⟨⟨c, h1, h2⟩, h3, h4, h5, h6, h7⟩ := h
  obtain ⟨A, c', e, hc1, hc2, hr⟩ := own_slice h2
  injection e with e1 e2 e3
  subst e1 e3
  refine ⟨c, h1.cell 0, h1.cell 1, fun j hj => ?_, hr, hc2⟩
  rw [h2.cellAt j (by omega)]
  simp [nats, hj]
/-- One state is stored. -/
theorem RTab.put (h : RTab w g b r T) {i : Nat} (hi : i < T.length) {to : Nat} (ht : to < 5) : RTab (w.setCell ⟨b, i, none⟩ (.int .i64 (to : Int))) g b r (T.set i to) ∧ Chg (rfoot g b) w (w.setCell ⟨b, i, none⟩ (.int .i64 (to : Int))) ∧ w.frozen? ⟨b, i, none⟩ = false := by
  obtain ⟨⟨c, h1, h2⟩, h3, h4, h5, h6, h7⟩ := h
  have f1 := h2.frozenAt i
  obtain ⟨k6, k7⟩ := h2.stored i (.int .i64 (to : Int))
  refine ⟨⟨⟨c, ?_, ?_⟩, h3, by rw [List.length_set]; exact h4, by rw [List.length_set]; exact h5, by rw [List.length_set]; exact h6, fun x hx => ?_⟩, Chg.setCell (Chg.refl _ w) (p := ⟨b, i, none⟩) (.inl (.inr rfl)) _, f1⟩
  · rw [List.length_set]; exact h1.far (by exact fun e => h3 e.symm) _
  · rw [List.length_set]
    have : nats (T.set i to) = (nats T).set i (.int .i64 (to : Int)) := by simp [nats, List.map_set]
    rw [this]; exact k6
  · rcases List.mem_or_eq_of_mem_set hx with e | e
    · exact h7 x e
    · omega
set_option maxHeartbeats 400000 in
theorem rtvalid (h : RTab w g b r T) :
    Calls Tryd.prog 50 #[.pointer (some ⟨g, 0, none⟩)] w fun e w' => e = .returned (.bool true) ∧ w = w' := by
  obtain ⟨c, q0, _⟩ := h.parts
  have hp := h.pos
  clear h
  go_enter Tryd.func50, Tryd.ntmps50
  go_wp2_with fail
  go_ret
  exact ⟨rfl, rfl⟩
/-- The slots below j in a state. -/
def shownTo (T : List Nat) (st : Int) (j : Nat) : List Nat := (List.range j).filter fun i => decide (((T.getD i 0 : Nat) : Int) = st)
theorem shownTo_len (T : List Nat) (st : Int) (j : Nat) : (shownTo T st j).length ≤ j := by
  have := List.length_filter_le (fun i => decide (((T.getD i 0 : Nat) : Int) = st)) (List.range j)
  rw [List.length_range] at this
  exact this
theorem shownTo_succ (T : List Nat) (st : Int) (j : Nat) (hj : j < T.length) : shownTo T st (j + 1) = if (T[j] : Int) = st then shownTo T st j ++ [j] else shownTo T st j := by
  unfold shownTo
  rw [List.range_succ, List.filter_append]
  have e : T.getD j 0 = T[j] := by rw [List.getD_eq_getElem?_getD, List.getElem?_eq_getElem hj]; rfl
  by_cases h : (T[j] : Int) = st
  · rw [if_pos h]
    simp only [List.filter_cons, List.filter_nil, e, h, decide_true, if_true]
  · rw [if_neg h]
    simp only [List.filter_cons, List.filter_nil, e, h, decide_false]
    simp
theorem shownTo_all (T : List Nat) (st : Int) (hall : ∀ x, x ∈ T → x < 5) : shownTo T st T.length = shown T st := by
  unfold shown shownTo
  by_cases hs : 0 ≤ st ∧ st < 5
  · rw [if_pos hs]
    unfold slotsOf
    rw [memb_length]
    apply List.filter_congr
    intro i hi
    have hi' := List.mem_range.1 hi
    rw [memb_at hi', List.getD_eq_getElem?_getD, List.getElem?_eq_getElem hi', Option.getD_some]
    congr 1
    apply propext
    constructor <;> intro h <;> omega
  · rw [if_neg hs]
    rw [List.filter_eq_nil_iff]
    intro i hi
    have hi' := List.mem_range.1 hi
    have := hall _ (List.getElem_mem hi')
    rw [List.getD_eq_getElem?_getD, List.getElem?_eq_getElem hi', Option.getD_some]
    simp
    omega
set_option maxHeartbeats 4000000 in
theorem rtin (h : RTab w g b r T) (st : Int) :
    Calls Tryd.prog 57 #[.pointer (some ⟨g, 0, none⟩), .int .i64 st] w fun e w' => ∃ v, e = .returned v ∧ w'.ownsRow w.heap.size 3 1 v (shown T st).length (nats (shown T st)) ∧ Below w.heap.size w w' := by
  obtain ⟨i0, hi0, hz0, hz1, hz2⟩ := info_parts int_info
  rw [← shownTo_all T st h.all]
  have H := Lib.hid h
  obtain ⟨n, hn⟩ : ∃ n, T.length = n := ⟨_, rfl⟩
  have HN := Lib.hid hn
  have hn32 : n ≤ 32 := by have := h.le; omega
  rw [hn]
  clear h hn
  go_enter Tryd.func57, Tryd.ntmps57
  go_wp2_with fail
  go_loopg [5, 6] n (fun q v5 v6 wr => ∃ j : Nat, j + q = n ∧ v6 = .int .i64 j ∧ wr.ownsRow w.heap.size 3 1 v5 (shownTo T st j).length (nats (shownTo T st j)) ∧ Below w.heap.size w wr)
  case atStart => exact ⟨0, by omega, rfl, World.ownsRow_nil _ _ _ _, Below.refl _ _⟩
  case round =>
    obtain ⟨j, hj, rfl, ho, hb⟩ := hrel
    have hj' : j ≤ n := by omega
    have HJ := Lib.hid hj
    have HO := Lib.hid ho
    have HB := Lib.hid hb
    have hr := H.out.below hb
    obtain ⟨c, q0, q1, qc, _, hcm⟩ := hr.parts
    rw [HN.out] at q0
    unfold maxLen at hcm
    have HV := Lib.hid (rtvalid hr)
    by_cases hlt : j < n
    · have hjT : j < T.length := by rw [HN.out]; exact hlt
      have qj := qc j hjT
      obtain ⟨x, hx⟩ : ∃ x, T[j] = x := ⟨_, rfl⟩
      rw [hx] at qj
      have hst := shownTo_succ T st j hjT
      rw [hx] at hst
      obtain ⟨A3, c3, rfl, hA3, hc3, hr3⟩ := own_slice ho
      have hl3 := shownTo_len T st j
      unfold maxLen at hc3
      have hwB : w.heap.size ≤ wr.heap.size := HB.out.size
      by_cases hxs : (x : Int) = st
      · rw [if_pos hxs] at hst
        have HT : Hid (shownTo T st (j + 1) = shownTo T st j ++ [j]) := hst
        have hbx : ((x : Int) == st) = true := by simp; exact hxs
        clear hj ho hb hr hr3 hx hst hjT qc hxs
        go_wp2_with fail
        refine HV.out.mono ?_
        rintro e w' ⟨rfl, rfl⟩
        go_wp2_with (at_builtin
                     refine wpList_append_any _ rfl (.tmp 29) (.tmp 31) _ rfl w.heap.size 3 i0 _ 1 8 Tryd.underlying27 hi0 hz0 hz1 hz2 rfl (by omega) _ (shownTo T st j).length (nats (shownTo T st j)) rfl
                       (own_below' HO.out ((Below.refl _ _).alloc (Nat.le_refl _) _)) (wr.heap.size + 1) _ 1 1 (nats [j]) rfl (reads_news wr 3 #[.int .i64 (j : Int)] (0, 0) 1 rfl) (nats_one _) (by simp only [maxLen]; omega) (by omega) (by simp; omega) ?_
                     intro v1 w4 hown1 hg1 hat1
                     have HO4 : Hid (w4.ownsRow w.heap.size 3 1 v1 (shownTo T st (j + 1)).length (nats (shownTo T st (j + 1)))) := by
                       show World.ownsRow _ _ _ _ _ _ _
                       rw [HT.out, List.length_append]
                       have e : nats (shownTo T st j ++ [j]) = nats (shownTo T st j) ++ nats [j] := by simp [nats]
                       rw [e]; exact hown1
                     have HB4 : Hid (Below w.heap.size w w4) := (HB.out.alloc (by omega) _).grown hg1 (by simp; omega) (fun q hq => (HO.out.lt q hq).1)
                     clear hown1 hg1 hat1)
        go_roundg (gk - 1)
        case measure => have := HJ.out; omega
        case rel => exact ⟨j + 1, by have := HJ.out; omega, by go_num, HO4.out, HB4.out⟩
      · rw [if_neg hxs] at hst
        have HT : Hid (shownTo T st (j + 1) = shownTo T st j) := hst
        have hbx : ((x : Int) == st) = false := by simp; exact hxs
        clear hj ho hb hr hr3 hx hst hjT qc hxs
        go_wp2_with fail
        refine HV.out.mono ?_
        rintro e w' ⟨rfl, rfl⟩
        go_wp2_with fail
        go_roundg (gk - 1)
        case measure => have := HJ.out; omega
        case rel => exact ⟨j + 1, by have := HJ.out; omega, by go_num, by rw [HT.out]; exact HO.out, HB.out⟩
    · have e8 : j = n := by omega
      subst e8
      clear hj ho hb hr qc
      go_wp2_with fail
      refine HV.out.mono ?_
      rintro e w' ⟨rfl, rfl⟩
      go_wp2_with fail
      go_ret
      exact ⟨_, rfl, HO.out, HB.out⟩
theorem shown_nat (T : List Nat) (s : Nat) (hs : s < 5) : shown T (s : Int) = slotsOf (memb T s) := by
  unfold shown
  rw [if_pos (by omega), Int.toNat_natCast]
/-- What Only answers. -/
def onlyB (T : List Nat) (st : Int) : Bool := decide (st = 1 ∨ st = 3 ∨ st = 4) && decide (0 < cnt T st.toNat)
def onlyV (T : List Nat) (st : Int) : Nat := if onlyB T st = true then firstIn T st.toNat else 0
theorem shown_first {T : List Nat} {s : Nat} (hs : s < 5) (hc : 0 < cnt T s) : ∃ l, shown T (s : Int) = firstIn T s :: l := by
  rw [shown_nat T s hs]
  unfold firstIn
  unfold cnt at hc
  cases e : slotsOf (memb T s) with
  | nil => rw [e] at hc; simp at hc
  | cons v l => exact ⟨l, rfl⟩
set_option maxHeartbeats 4000000 in
theorem rtonly (h : RTab w g b r T) (st : Int) :
    Calls Tryd.prog 51 #[.pointer (some ⟨g, 0, none⟩), .int .i64 st] w fun e w' => e = .returned (.tuple #[.int .i64 (onlyV T st : Int), .bool (onlyB T st)]) ∧ Below w.heap.size w w' := by
  have HI := Lib.hid (rtin h st)
  clear h
  unfold onlyV
  by_cases hs : st = 1 ∨ st = 3 ∨ st = 4
  · obtain ⟨s, rfl, hs2⟩ : ∃ s : Nat, st = (s : Int) ∧ (s = 1 ∨ s = 3 ∨ s = 4) := ⟨st.toNat, by omega, by omega⟩
    have hB : onlyB T (s : Int) = decide (0 < cnt T s) := by unfold onlyB; rw [decide_eq_true hs, Int.toNat_natCast, Bool.true_and]
    rw [hB]
    by_cases hc : 0 < cnt T s
    · obtain ⟨l, hl⟩ := shown_first (T := T) (s := s) (by omega) hc
      rw [decide_eq_true hc, if_pos rfl, Int.toNat_natCast]
      obtain ⟨v, hv⟩ : ∃ v, firstIn T s = v := ⟨_, rfl⟩
      rw [hv] at hl ⊢
      rw [hl] at HI
      have hll : (v :: l).length = l.length + 1 := rfl
      rw [hll] at HI
      clear hs hB hc hl hv hll
      go_enter Tryd.func51, Tryd.ntmps51
      go_wp2_with fail
      refine HI.out.mono ?_
      rintro e w1 ⟨v1, rfl, ho, hb⟩
      obtain ⟨A1, c1, rfl, h11, h12, h13⟩ := own_slice ho
      obtain ⟨ad, u, rfl, hab, hu, hcell⟩ := h13.at_ (k := 0) (by omega)
      have hu' : u = .int .i64 (v : Int) := by
        have : (nats (v :: l))[0]? = some (.int .i64 (v : Int)) := rfl
        rw [this] at hu
        exact (Option.some.inj hu).symm
      subst hu'
      rw [show ad.add 0 = ad from by simp [Addr.add]] at hcell
      have HB := Lib.hid hb
      unfold maxLen at h12
      clear ho hb h13 hu hab
      rcases hs2 with rfl | rfl | rfl
      all_goals
        go_wp2_with fail
        go_ret2
        exact ⟨rfl, HB.out⟩
    · have hl : shown T (s : Int) = [] := by
        rw [shown_nat T s (by omega)]
        unfold cnt at hc
        exact List.eq_nil_of_length_eq_zero (by omega)
      rw [decide_eq_false hc, if_neg (by simp)]
      rw [hl] at HI
      clear hs hB hc hl
      go_enter Tryd.func51, Tryd.ntmps51
      go_wp2_with fail
      refine HI.out.mono ?_
      rintro e w1 ⟨v1, rfl, ho, hb⟩
      obtain ⟨A1, c1, rfl, h11, h12, h13⟩ := own_slice ho
      have HB := Lib.hid hb
      clear ho hb h13
      rcases hs2 with rfl | rfl | rfl
      all_goals
        go_wp2_with fail
        go_ret2
        exact ⟨rfl, HB.out⟩
  · have hB : onlyB T st = false := by unfold onlyB; rw [decide_eq_false hs, Bool.false_and]
    rw [hB, if_neg (by simp)]
    have b1 : (st != 1) = true := by simp; omega
    have b3 : (st != 3) = true := by simp; omega
    have b4 : (st != 4) = true := by simp; omega
    clear hB hs
    obtain ⟨m, hm⟩ : ∃ m, (shown T st).length = m := ⟨_, rfl⟩
    rw [hm] at HI
    clear hm
    go_enter Tryd.func51, Tryd.ntmps51
    go_wp2_with fail
    refine HI.out.mono ?_
    rintro e w1 ⟨v1, rfl, ho, hb⟩
    obtain ⟨A1, c1, rfl, h11, h12, h13⟩ := own_slice ho
    have HB := Lib.hid hb
    clear ho hb h13
    by_cases hm0 : m = 0
    · subst hm0
      go_wp2_with fail
      go_ret2
      exact ⟨rfl, HB.out⟩
    · have hmb : ((m : Int) == 0) = false := by simp; omega
      go_wp2_with fail
      go_ret2
      exact ⟨rfl, HB.out⟩
set_option maxHeartbeats 400000 in
theorem rtfree (h : RTab w g b r T) :
    Calls Tryd.prog 52 #[.pointer (some ⟨g, 0, none⟩)] w fun e w' => e = .returned (.int .i64 (cnt T 0 : Int)) ∧ Below w.heap.size w w' := by
  have HI : Hid (Calls Tryd.prog 57 #[.pointer (some ⟨g, 0, none⟩), .int .i64 0] w fun e w' => ∃ A c, e = .returned (.slice A (cnt T 0) c) ∧ Below w.heap.size w w') := by
    refine (rtin h 0).mono ?_
    rintro e w1 ⟨v1, rfl, ho, hb⟩
    obtain ⟨A1, c1, rfl, h11, h12, h13⟩ := own_slice ho
    exact ⟨A1, c1, by rw [show shown T 0 = slotsOf (memb T 0) from shown_nat T 0 (by omega)]; rfl, hb⟩
  clear h
  go_enter Tryd.func52, Tryd.ntmps52
  go_wp2_with fail
  refine HI.out.mono ?_
  rintro e w1 ⟨A1, c1, rfl, hb⟩
  have HB := Lib.hid hb
  clear hb
  go_wp2_with fail
  go_ret
  exact ⟨rfl, HB.out⟩
end
end Go.Proofs.YtalonikiljcpfaaDoor

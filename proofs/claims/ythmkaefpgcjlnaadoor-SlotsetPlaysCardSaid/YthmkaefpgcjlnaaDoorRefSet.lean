/-
  The document's sets: their methods. Conditions: the set is as its New makes it (its row of truth values is the call's own).
-/
import Derived.Test.YthmkaefpgcjlnaaDoorSlotsetHasW
import Derived.Test.YthmkaefpgcjlnaaDoorSetAll
import Derived.Deep.AppendLies
import Derived.Laws.OwnMore
namespace Go.Proofs.YthmkaefpgcjlnaaDoor
open Go.RowKit Go.Shelf
set_option linter.unusedVariables false
structure RSet (w : World) (g b : Nat) (L : List Bool) : Prop where
  ex : ∃ c, Blk w g 69 #[.slice (some ⟨b, 0, none⟩) L.length c] ∧ w.ownsRow 0 4 1 (.slice (some ⟨b, 0, none⟩) L.length c) L.length (bvals L)
  ne : b ≠ g
  pos : 0 < L.length
  le : L.length ≤ 34
def rfoot (g b : Nat) : Nat → Prop := fun k => k = g ∨ k = b
theorem RSet.chg {F : Nat → Prop} {w w' : World} {g b : Nat} {L : List Bool} (h : RSet w g b L) (hc : Chg F w w') (hF : ∀ k, rfoot g b k → ¬ F k) : RSet w' g b L := by
  obtain ⟨⟨c, h1, h2⟩, h3, h4, h5⟩ := h
  exact ⟨⟨c, h1.chg hc (hF _ (.inl rfl)), own_chg h2 hc (fun k hk => hF k (.inr (by simpa [Value.ownBlock] using hk.symm)))⟩, h3, h4, h5⟩
theorem RSet.lt {w : World} {g b : Nat} {L : List Bool} (h : RSet w g b L) : ∀ k, rfoot g b k → k < w.heap.size := by
  obtain ⟨⟨c, h1, h2⟩, h3, h4, h5⟩ := h
  intro k hk
  rcases hk with rfl | rfl
  · exact h1.lt
  · exact (h2.lt _ rfl).2
theorem RSet.below {w w' : World} {g b : Nat} {L : List Bool} (h : RSet w g b L) (hb : Below w.heap.size w w') : RSet w' g b L := h.chg (F := fun _ => False) (Chg.of_below hb) (fun _ _ h => h)
def rsetOb (g b : Nat) (L : List Bool) : Ob where
  P w := RSet w g b L
  F := rfoot g b
  keep := fun hc hd h => h.chg hc hd
  lt := fun h => h.lt
theorem list_ext {L M : List Bool} (h : L.length = M.length) (hi : ∀ i, inL L i = inL M i) : L = M := by
  apply List.ext_getElem h
  intro i h1 h2
  have := hi i
  simpa [inL, h1, h2] using this
section
variable {w : World} {g b t tb : Nat} {L M : List Bool}
theorem RSet.parts (h : RSet w g b L) : ∃ c, w.cell? ⟨g, 0, none⟩ = some (.slice (some ⟨b, 0, none⟩) L.length c) ∧ (∀ j, j < L.length → w.cell? ⟨b, j, none⟩ = some (.bool (inL L j))) ∧ Reads w w.heap.size 1 (some ⟨b, 0, none⟩) L.length (bvals L) ∧ c ≤ maxLen := by
  obtain ⟨⟨c, h1, h2⟩, h3, h4, h5⟩ := h
  obtain ⟨A, c', e, hc1, hc2, hr⟩ := own_slice h2
  injection e with e1 e2 e3
  subst e1 e3
  exact ⟨c, h1.cell 0, fun j hj => by rw [h2.cellAt j (by omega), bvals_at hj], hr, hc2⟩
set_option maxHeartbeats 400000 in
theorem rvalid (h : RSet w g b L) :
    Calls Tryd.prog 49 #[.pointer (some ⟨g, 0, none⟩)] w fun e w' => e = .returned (.bool true) ∧ w = w' := by
  obtain ⟨c, q0, _⟩ := h.parts
  have hp := h.pos
  clear h
  go_enter Tryd.func49, Tryd.ntmps49
  go_wp2_with fail
  go_ret
  exact ⟨rfl, rfl⟩
set_option maxHeartbeats 400000 in
theorem rvalid_no (w : World) :
    Calls Tryd.prog 49 #[.pointer none] w fun e w' => e = .returned (.bool false) ∧ w = w' := by
  go_enter Tryd.func49, Tryd.ntmps49
  go_wp2_with fail
  go_ret
  exact ⟨rfl, rfl⟩
set_option maxHeartbeats 1000000 in
theorem rset_any (h : RSet w g b L) (j : Int) (v : Bool) :
    Calls Tryd.prog 47 #[.pointer (some ⟨g, 0, none⟩), .int .i64 j, .bool v] w fun e w' => e = .returned (.int .i64 (errAt L j)) ∧ RSet w' g b (setAt L j v) ∧ Chg (rfoot g b) w w' := by
  obtain ⟨c, q0, qc, hr, _⟩ := h.parts
  have H := Lib.hid h
  have HV := Lib.hid (rvalid h)
  have hle := h.le
  unfold errAt setAt
  by_cases hj : 0 ≤ j ∧ j < L.length
  · obtain ⟨k, rfl⟩ := Int.eq_ofNat_of_zero_le hj.1
    have hk : k < L.length := by omega
    rw [if_pos hj, if_pos hj, Int.toNat_natCast]
    have q1 := qc k hk
    obtain ⟨⟨c', h1, h2⟩, h3, h4, h5⟩ := h
    have ec : c' = c := by have := h1.cell 0; rw [q0] at this; simpa using this.symm
    subst ec
    have f1 := h2.frozenAt k
    obtain ⟨h6, h7⟩ := h2.stored k (.bool v)
    have HS : Hid (RSet (w.setCell ⟨b, k, none⟩ (.bool v)) g b (L.set k v)) := by
      refine ⟨⟨c', ?_, ?_⟩, h3, by rw [List.length_set]; exact h4, by rw [List.length_set]; exact h5⟩
      · rw [List.length_set]; exact h1.far (by exact fun e => h3 e.symm) _
      · rw [List.length_set]
        have : bvals (L.set k v) = (bvals L).set k (.bool v) := by simp [bvals, List.map_set]
        rw [this]; exact h6
    clear qc hr h1 h2 h6 h7 hj
    go_enter Tryd.func47, Tryd.ntmps47
    go_wp2_with fail
    refine HV.out.mono ?_
    rintro e w' ⟨rfl, rfl⟩
    go_wp2_with fail
    go_ret
    exact ⟨rfl, HS.out, Chg.setCell (Chg.refl _ w) (p := ⟨b, k, none⟩) (.inl (.inr rfl)) _⟩
  · rw [if_neg hj, if_neg hj]
    clear qc hr
    by_cases hneg : j < 0
    · clear hj h
      go_enter Tryd.func47, Tryd.ntmps47
      go_wp2_with fail
      refine HV.out.mono ?_
      rintro e w' ⟨rfl, rfl⟩
      go_wp2_with fail
      go_ret
      exact ⟨rfl, H.out, Chg.refl _ _⟩
    · have hge : (L.length : Int) ≤ j := by omega
      clear hj h
      go_enter Tryd.func47, Tryd.ntmps47
      go_wp2_with fail
      refine HV.out.mono ?_
      rintro e w' ⟨rfl, rfl⟩
      go_wp2_with fail
      go_ret
      exact ⟨rfl, H.out, Chg.refl _ _⟩
set_option maxHeartbeats 400000 in
theorem radd_any (h : RSet w g b L) (j : Int) :
    Calls Tryd.prog 29 #[.pointer (some ⟨g, 0, none⟩), .int .i64 j] w fun e w' => e = .returned (.int .i64 (errAt L j)) ∧ RSet w' g b (setAt L j true) ∧ Chg (rfoot g b) w w' := by
  have H := Lib.hid (rset_any h j true)
  clear h
  go_enter Tryd.func29, Tryd.ntmps29
  go_wp2_with fail
  refine H.out.mono ?_
  rintro e w' ⟨rfl, h1, h2⟩
  go_wp2_with fail
  go_ret
  exact ⟨rfl, h1, h2⟩
set_option maxHeartbeats 400000 in
theorem rremove_any (h : RSet w g b L) (j : Int) :
    Calls Tryd.prog 30 #[.pointer (some ⟨g, 0, none⟩), .int .i64 j] w fun e w' => e = .returned (.int .i64 (errAt L j)) ∧ RSet w' g b (setAt L j false) ∧ Chg (rfoot g b) w w' := by
  have H := Lib.hid (rset_any h j false)
  clear h
  go_enter Tryd.func30, Tryd.ntmps30
  go_wp2_with fail
  refine H.out.mono ?_
  rintro e w' ⟨rfl, h1, h2⟩
  go_wp2_with fail
  go_ret
  exact ⟨rfl, h1, h2⟩
set_option maxHeartbeats 1000000 in
theorem rhas_any (h : RSet w g b L) (j : Int) :
    Calls Tryd.prog 37 #[.pointer (some ⟨g, 0, none⟩), .int .i64 j] w fun e w' => e = .returned (.bool (hasAt L j)) ∧ w = w' := by
  obtain ⟨c, q0, qc, hr, _⟩ := h.parts
  have HV := Lib.hid (rvalid h)
  have hle := h.le
  clear h hr
  unfold hasAt
  by_cases hneg : j < 0
  · rw [decide_eq_false (by omega), Bool.false_and]
    clear qc
    go_enter Tryd.func37, Tryd.ntmps37
    go_wp2_with fail
    refine HV.out.mono ?_
    rintro e w' ⟨rfl, rfl⟩
    go_wp2_with fail
    go_ret
    exact ⟨rfl, rfl⟩
  · obtain ⟨k, rfl⟩ := Int.eq_ofNat_of_zero_le (show 0 ≤ j by omega)
    rw [decide_eq_true (by omega), Bool.true_and, Int.toNat_natCast]
    by_cases hk : k < L.length
    · have q1 := qc k hk
      clear qc hneg
      generalize inL L k = v at q1
      go_enter Tryd.func37, Tryd.ntmps37
      go_wp2_with fail
      refine HV.out.mono ?_
      rintro e w' ⟨rfl, rfl⟩
      go_wp2_with fail
      go_ret
      exact ⟨rfl, rfl⟩
    · rw [inL_ge (by omega)]
      clear qc hneg
      go_enter Tryd.func37, Tryd.ntmps37
      go_wp2_with fail
      refine HV.out.mono ?_
      rintro e w' ⟨rfl, rfl⟩
      go_wp2_with fail
      go_ret
      exact ⟨rfl, rfl⟩
set_option maxHeartbeats 400000 in
theorem rsize_of (h : RSet w g b L) :
    Calls Tryd.prog 38 #[.pointer (some ⟨g, 0, none⟩)] w fun e w' => e = .returned (.int .i64 (L.length : Int)) ∧ w = w' := by
  obtain ⟨c, q0, qc, hr, _⟩ := h.parts
  have HV := Lib.hid (rvalid h)
  clear h hr qc
  go_enter Tryd.func38, Tryd.ntmps38
  go_wp2_with fail
  refine HV.out.mono ?_
  rintro e w' ⟨rfl, rfl⟩
  go_wp2_with fail
  go_ret
  exact ⟨rfl, rfl⟩
set_option maxHeartbeats 2000000 in
theorem rall_any (h : RSet w g b L) :
    Calls Tryd.prog 39 #[.pointer (some ⟨g, 0, none⟩)] w fun e w' => ∃ v, e = .returned v ∧ w'.ownsRow w.heap.size 3 1 v (slotsOf L).length (nats (slotsOf L)) ∧ Below w.heap.size w w' := by
  obtain ⟨i0, hi0, hz0, hz1, hz2⟩ := info_parts int_info
  have H := Lib.hid h
  have hle := h.le
  clear h
  go_enter Tryd.func39, Tryd.ntmps39
  go_wp2_with fail
  go_loopg [3, 4] L.length (fun q v3 v4 wr => ∃ j : Nat, j + q = L.length ∧ v4 = .int .i64 j ∧ wr.ownsRow w.heap.size 3 1 v3 (slotsTo L j).length (nats (slotsTo L j)) ∧ Below w.heap.size w wr)
  case atStart => exact ⟨0, by omega, rfl, World.ownsRow_nil _ _ _ _, Below.refl _ _⟩
  case round =>
    obtain ⟨j, hj, rfl, ho, hb⟩ := hrel
    have hj' : j ≤ L.length := by omega
    have HJ := Lib.hid hj
    have HO := Lib.hid ho
    have HB := Lib.hid hb
    have h2 := H.out.below hb
    have HV := Lib.hid (rvalid h2)
    obtain ⟨c, q0, qc, hr, _⟩ := h2.parts
    by_cases hlt : j < L.length
    · have hc := qc j hlt
      have hst := slots_to L j
      have hsle := slotsTo_le L j
      cases hin : inL L j with
      | true =>
        rw [hin] at hc hst
        have HT : Hid (slotsTo L (j + 1) = slotsTo L j ++ [j]) := hst
        obtain ⟨A3, c3, rfl, hA3, hc3, hr3⟩ := own_slice ho
        unfold maxLen at hc3
        have hwB : w.heap.size ≤ wr.heap.size := hb.size
        clear hst hj ho hb hr3 hin qc hr h2
        go_wp2_with fail
        refine HV.out.mono ?_
        rintro e w' ⟨rfl, rfl⟩
        go_wp2_with (at_builtin
                     refine wpList_append_any _ rfl (.tmp 25) (.tmp 27) _ rfl w.heap.size 3 i0 _ 1 8 Tryd.underlying29 hi0 hz0 hz1 hz2 rfl (by omega) _ (slotsTo L j).length (nats (slotsTo L j)) rfl
                       (own_below' HO.out ((Below.refl _ _).alloc (Nat.le_refl _) _)) (wr.heap.size + 1) _ 1 1 (nats [j]) rfl (reads_news wr 3 #[.int .i64 (j : Int)] (0, 0) 1 rfl) (nats_one _) (by simp only [maxLen]; omega) (by omega) (by simp; omega) ?_
                     intro v1 w4 hown1 hg1 hat1
                     have HO4 : Hid (w4.ownsRow w.heap.size 3 1 v1 (slotsTo L (j + 1)).length (nats (slotsTo L (j + 1)))) := by
                       show World.ownsRow _ _ _ _ _ _ _
                       rw [HT.out, List.length_append]
                       have e : nats (slotsTo L j ++ [j]) = nats (slotsTo L j) ++ nats [j] := by simp [nats]
                       rw [e]; exact hown1
                     have HB4 : Hid (Below w.heap.size w w4) := (HB.out.alloc (by omega) _).grown hg1 (by simp; omega) (fun q hq => (HO.out.lt q hq).1)
                     clear hown1 hg1 hat1)
        go_roundg (gk - 1)
        case measure => have := HJ.out; omega
        case rel => exact ⟨j + 1, by have := HJ.out; omega, by go_num, HO4.out, HB4.out⟩
      | false =>
        rw [hin] at hc hst
        have HT : Hid (slotsTo L (j + 1) = slotsTo L j) := hst
        clear hst hj ho hb hin qc hr h2
        go_wp2_with fail
        refine HV.out.mono ?_
        rintro e w' ⟨rfl, rfl⟩
        go_wp2
        go_roundg (gk - 1)
        case measure => have := HJ.out; omega
        case rel => exact ⟨j + 1, by have := HJ.out; omega, by go_num, by rw [HT.out]; exact HO.out, HB.out⟩
    · have e8 : j = L.length := by omega
      subst e8
      clear hj ho hb qc hr h2
      go_wp2_with fail
      refine HV.out.mono ?_
      rintro e w' ⟨rfl, rfl⟩
      go_wp2
      go_ret
      exact ⟨_, rfl, HO.out, HB.out⟩
end
end Go.Proofs.YthmkaefpgcjlnaaDoor

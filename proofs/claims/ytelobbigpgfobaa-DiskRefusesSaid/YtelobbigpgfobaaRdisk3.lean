/-
  The walks of the document's disk (drumlinref10.Disk): Append, Sync, Erase. Conditions: the disk is as New makes it; what is appended can be read.
-/
import Derived.Test.YtelobbigpgfobaaRdisk2
namespace Go.Proofs.Ytelobbigpgfobaa
open Go.RowKit
set_option linter.unusedVariables false
section
variable {w w' w1 : World} {S S' : Nat → Prop} {d n : Nat} {D : Nat → SlotD}
theorem RTo.refl (h : IsR w S d n D) (hb : Below w.heap.size w w') : RTo w w' S d n D := ⟨S, h.below hb, fun _ h => h, fun _ h => .inl h, Chg.of_below hb⟩
/-- The call before has made blocks of its own, which are read from now on. -/
theorem RTo.grow {S1 : Nat → Prop} (h : RTo w1 w' S1 d n D) (hb : Below w.heap.size w w1) (h1 : ∀ k, S k → S1 k) (h2 : ∀ k, S1 k → S k ∨ w.heap.size ≤ k) : RTo w w' S d n D := by
  obtain ⟨S', k1, k2, k3, k4⟩ := h
  have := hb.size
  exact ⟨S', k1, fun k hk => k2 k (h1 k hk), fun k hk => by
    rcases k3 k hk with e | e
    · exact h2 k e
    · exact .inr (by omega), (Chg.of_below (F := fun k => k = d) hb).trans k4 (fun _ _ h => h)⟩
set_option maxHeartbeats 1000000 in
theorem rsync (h : IsR w S d n D) (hn : 0 < n) (hm34 : n ≤ 65536) (i : Nat) (hi : i < n) :
    Calls Try.prog 26 #[.pointer (some ⟨d, 0, none⟩), .int .i64 (i : Int)] w fun e w' => e = .returned (.int .i64 0) ∧ RTo w w' S d n (syncD D i) := by
  obtain ⟨A, c, q0, _, hnc, hm, hc⟩ := h.cells
  obtain ⟨ad, B, cb, rfl, a0, a1, a2, hb⟩ := hc i hi
  have HV := Lib.hid (rcheck h hn i hi)
  have hnum := h.nums i hi
  have hba : Below w.heap.size w (w.alloc (.cells #[.int .i64 ((D i).size : Int), .slice B (D i).bytes.length cb, .int .i64 ((D i).bytes.length : Int)] 87)) := (Below.refl _ _).alloc (Nat.le_refl _) _
  have HS := Lib.hid (rset (h.below hba) hn hm34 i hi ⟨(D i).size, (D i).bytes, (D i).bytes.length⟩ B cb (hb.chg h.lt (Chg.of_below (F := fun _ => False) hba) (fun _ _ h => h)) ⟨Nat.le_refl _, hnum.2.1, hnum.2.2.1, hnum.2.2.2⟩)
  have HBA := Lib.hid hba
  have hb2 := hb.2.1
  have hb1 := hb.1
  unfold maxLen at hm hb2
  clear h hc hb hnum hba
  go_enter Try.func26, Try.ntmps26
  go_wp2_with fail
  refine HV.out.mono ?_
  rintro e w' ⟨rfl, rfl⟩
  go_wp2_with fail
  refine HS.out.mono ?_
  rintro e w' ⟨rfl, hq⟩
  have HQ := Lib.hid hq
  clear hq
  go_wp2_with fail
  go_ret
  exact ⟨rfl, HQ.out.before HBA.out⟩
set_option maxHeartbeats 1000000 in
theorem rerase (h : IsR w S d n D) (hn : 0 < n) (hm34 : n ≤ 65536) (i : Nat) (hi : i < n) :
    Calls Try.prog 27 #[.pointer (some ⟨d, 0, none⟩), .int .i64 (i : Int)] w fun e w' => e = .returned (.int .i64 0) ∧ RTo w w' S d n (eraseD D i) := by
  obtain ⟨A, c, q0, _, hnc, hm, hc⟩ := h.cells
  obtain ⟨ad, B, cb, rfl, a0, a1, a2, hb⟩ := hc i hi
  have HV := Lib.hid (rcheck h hn i hi)
  have hnum := h.nums i hi
  have HS := Lib.hid (rset h hn hm34 i hi ⟨(D i).size, [], 0⟩ none 0 (BytesAt.nil_ _ _) ⟨by simp, by simp, hnum.2.2.1, hnum.2.2.2⟩)
  unfold maxLen at hm
  clear h hc hb hnum
  go_enter Try.func27, Try.ntmps27
  go_wp2_with fail
  refine HV.out.mono ?_
  rintro e w' ⟨rfl, rfl⟩
  go_wp2_with fail
  refine HS.out.mono ?_
  rintro e w' ⟨rfl, hq⟩
  have HQ := Lib.hid hq
  clear hq
  go_wp2_with fail
  go_ret
  exact ⟨rfl, HQ.out⟩
set_option maxHeartbeats 1000000 in
theorem rappend (h : IsR w S d n D) (hn : 0 < n) (hm34 : n ≤ 65536) (i : Nat) (hi : i < n) (v : Value) (b : List (BitVec 8)) (hv : Holds w v b) (hb64 : b.length ≤ 1000000) :
    Calls Try.prog 25 #[.pointer (some ⟨d, 0, none⟩), .int .i64 (i : Int), v] w fun e w' => e = .returned (.int .i64 (appE D i b)) ∧ RTo w w' S d n (appD D i b) := by
  obtain ⟨A, c, q0, _, hnc, hm, hc⟩ := h.cells
  obtain ⟨ad, B, cb, rfl, a0, a1, a2, hb⟩ := hc i hi
  obtain ⟨Av, mv, cv, rfl, hmv, hmc, hcm, hr⟩ := hv
  have HV := Lib.hid (rcheck h hn i hi)
  have H := Lib.hid h
  have HBT := Lib.hid hb
  have HRV := Lib.hid hr
  have hb2 := hb.2.1
  have hb1 := hb.1
  unfold maxLen at hm hb2 hcm
  subst hmv
  obtain ⟨u1, u2, u3, u4⟩ := h.nums i hi
  clear h hc hb hr
  have hdl := H.out.blk_lt
  by_cases hf : (D i).bytes.length + b.length ≤ (D i).size
  · obtain ⟨i0, hi0, hz0, hz1, hz2⟩ := info_parts u8_info
    obtain ⟨wa, hwa⟩ : ∃ wa : World, wa = w.alloc (.cells #[.int .i64 ((D i).size : Int), .slice B (D i).bytes.length cb, .int .i64 ((D i).dur : Int)] 87) := ⟨_, rfl⟩
    have hwas : wa.heap.size = w.heap.size + 1 := by rw [hwa]; simp
    have HO := Lib.hid (made0b wa)
    have HB1 : Hid (Below w.heap.size w (wa.alloc (.cells #[] 5))) := by
      show Below _ _ _
      rw [hwa]
      exact ((Below.refl _ _).alloc (Nat.le_refl _) _).alloc (by simp) _
    have HRB : Hid (Reads (wa.alloc (.cells #[] 5)) w.heap.size 1 B (D i).bytes.length (u8s (D i).bytes)) := (HBT.out.reads H.out.lt).below HB1.out
    have HP : Hid (Blk (wa.alloc (.cells #[] 5)) w.heap.size 87 #[.int .i64 ((D i).size : Int), .slice B (D i).bytes.length cb, .int .i64 ((D i).dur : Int)]) := by
      show Blk _ _ _ _
      rw [hwa]
      exact (Blk.new w _ _).alloc _
    rw [hwas] at HO
    rw [hwa] at HRB HP HB1 HO
    clear hwa hwas
    go_enter Try.func25, Try.ntmps25
    go_wp2_with fail
    refine HV.out.mono ?_
    rintro e w' ⟨rfl, rfl⟩
    go_wp2_with (first
      | (at_builtin
         refine wpList_append_any _ rfl (.tmp 31) (.tmp 33) _ rfl (w.heap.size + 1) 5 i0 _ 1 1 Try.underlying36 hi0 hz0 hz1 hz2 rfl (by omega) (.slice (some ⟨w.heap.size + 1, 0, none⟩) 0 0) 0 [] rfl
           HO.out w.heap.size _ (D i).bytes.length _ (u8s (D i).bytes) rfl HRB.out (u8s_one _) (by simp only [maxLen]; omega) (by omega) (by simp) ?_
         intro v1 w4 hown1 hg1 hat1
         rw [Nat.zero_add, List.nil_append] at hown1
         have HB4 := Lib.hid (HB1.out.grown hg1 (by simp; omega) (by intro q hq; simp [Value.ownBlock] at hq; omega))
         have HP4 := Lib.hid (HP.out.grown hg1 (by simp [Value.ownBlock]))
         obtain ⟨A1, c1, rfl, hA1, hc1, _⟩ := own_slice hown1
         have HO1 := Lib.hid hown1
         have HR4 := Lib.hid (HRV.out.below HB4.out)
         have hs4 : w.heap.size + 1 ≤ w4.heap.size := HP4.out.lt
         clear hown1 hg1 hat1)
      | (at_builtin
         refine wpList_append_any _ rfl (.tmp 34) (.tmp 35) _ rfl (w.heap.size + 1) 5 i0 _ 1 1 Try.underlying36 hi0 hz0 hz1 hz2 rfl (by omega) (.slice A1 (D i).bytes.length c1) (D i).bytes.length (u8s (D i).bytes) rfl
           HO1.out w.heap.size _ b.length _ (u8s b) rfl HR4.out (u8s_one _) (by simp only [maxLen]; omega) (by omega) hs4 ?_
         intro v2 w5 hown2 hg2 hat2
         have hob : ∀ q, (Value.slice A1 (D i).bytes.length c1).ownBlock = some q → w.heap.size + 1 ≤ q := fun q hq => (HO1.out.lt q hq).1
         have HB5 := Lib.hid (HB4.out.grown hg2 (by omega) (fun q hq => by have := hob q hq; omega))
         have hp5 := HP4.out.grown hg2 (fun e => by have := hob _ e.symm; omega)
         rw [u8s_append, ← List.length_append] at hown2
         obtain ⟨A2, c2, rfl, hA2, hc2, _⟩ := own_slice hown2
         have HO2 := Lib.hid hown2
         have p0 : w5.cell? ⟨w.heap.size, 0, none⟩ = some (.int .i64 ((D i).size : Int)) := hp5.cell 0
         have p1 : w5.cell? ⟨w.heap.size, 1, none⟩ = some (.slice B (D i).bytes.length cb) := hp5.cell 1
         have p2 : w5.cell? ⟨w.heap.size, 2, none⟩ = some (.int .i64 ((D i).dur : Int)) := hp5.cell 2
         have z1 : w5.frozen? ⟨w.heap.size, 1, none⟩ = false := hp5.frozen 1
         clear hown2 hg2 hat2 hob hp5))
    rw [show (D i).bytes.length + b.length = ((D i).bytes ++ b).length from by simp]
    obtain ⟨w6, hw6⟩ : ∃ w6 : World, w6 = w5.setCell ⟨w.heap.size, 1, none⟩ (.slice A2 ((D i).bytes ++ b).length c2) := ⟨_, rfl⟩
    have HB6 : Hid (Below w.heap.size w w6) := by
      show Below _ _ _
      rw [hw6]
      exact HB5.out.setCell (Nat.le_refl _) _
    have hO6 : w6.ownsRow (w.heap.size + 1) 5 1 (.slice A2 ((D i).bytes ++ b).length c2) ((D i).bytes ++ b).length (u8s ((D i).bytes ++ b)) := by
      rw [hw6]
      exact ownsRow_setCell_below HO2.out (by show w.heap.size < w.heap.size + 1; omega) _
    rw [← hw6]
    have hBA : BytesAt w6 (fun k => S k ∨ (Value.slice A2 ((D i).bytes ++ b).length c2).ownBlock = some k) A2 c2 ((D i).bytes ++ b) := BytesAt.own hO6 (fun k hk => .inr hk)
    have hI6 : IsR w6 (fun k => S k ∨ (Value.slice A2 ((D i).bytes ++ b).length c2).ownBlock = some k) d n D := (H.out.below HB6.out).more (fun k hk => .inl hk) (fun e => by
      rcases e with e | e
      · exact H.out.nd e
      · have := (hO6.lt _ e).1; omega) ((H.out.below HB6.out).cel.or (own_cells hO6))
    have HS := Lib.hid (rset hI6 hn hm34 i hi ⟨(D i).size, (D i).bytes ++ b, (D i).dur⟩ A2 c2 hBA ⟨by simp only [List.length_append]; omega, by simp only [List.length_append]; omega, u3, u4⟩)
    have HLT : Hid (∀ k, (Value.slice A2 ((D i).bytes ++ b).length c2).ownBlock = some k → w.heap.size ≤ k) := fun k hk => by have := (hO6.lt k hk).1; omega
    clear hw6 hO6 hBA hI6
    refine HS.out.mono ?_
    rintro e w' ⟨rfl, hq⟩
    have HQ := Lib.hid hq
    clear hq
    go_wp2_with fail
    go_ret
    unfold appE appD
    rw [if_pos hf, if_pos hf]
    exact ⟨rfl, HQ.out.grow HB6.out (fun k hk => .inl hk) (fun k hk => hk.imp id (HLT.out k))⟩
  · go_enter Try.func25, Try.ntmps25
    go_wp2_with fail
    refine HV.out.mono ?_
    rintro e w' ⟨rfl, rfl⟩
    go_wp2_with fail
    go_ret
    unfold appE appD
    rw [if_neg hf, if_neg hf]
    exact ⟨rfl, RTo.refl H.out ((Below.refl _ _).alloc (Nat.le_refl _) _)⟩
end
end Go.Proofs.Ytelobbigpgfobaa

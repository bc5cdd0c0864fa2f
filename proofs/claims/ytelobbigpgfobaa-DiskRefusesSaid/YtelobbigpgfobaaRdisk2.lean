/-
  The walks of the document's disk (drumlinref10.Disk): valid, check, set, Slots, Len, Durable, Room. Conditions: the disk is as New makes it.
-/
import Derived.Test.YtelobbigpgfobaaRdisk
import Derived.Deep.QuietTactic
import Derived.BigQuiet
namespace Go.Proofs.Ytelobbigpgfobaa
open Go.RowKit
set_option linter.unusedVariables false
section
variable {w w' w1 : World} {S S' : Nat → Prop} {d n : Nat} {D : Nat → SlotD}
set_option maxHeartbeats 400000 in
theorem rvalid (h : IsR w S d n D) (hn : 0 < n) :
    Calls Try.prog 55 #[.pointer (some ⟨d, 0, none⟩)] w fun e w' => e = .returned (.bool true) ∧ w = w' := by
  obtain ⟨A, c, q0, _, _, hm, _⟩ := h.cells
  unfold maxLen at hm
  clear h
  go_enter Try.func55, Try.ntmps55
  go_wp2_with fail
  go_ret
  exact ⟨rfl, rfl⟩
set_option maxHeartbeats 400000 in
theorem rslots (h : IsR w S d n D) (hn : 0 < n) :
    Calls Try.prog 62 #[.pointer (some ⟨d, 0, none⟩)] w fun e w' => e = .returned (.int .i64 (n : Int)) ∧ w = w' := by
  obtain ⟨A, c, q0, _, _, hm, _⟩ := h.cells
  have HV := Lib.hid (rvalid h hn)
  unfold maxLen at hm
  clear h
  go_enter Try.func62, Try.ntmps62
  go_wp2_with fail
  refine HV.out.mono ?_
  rintro e w' ⟨rfl, rfl⟩
  go_wp2_with fail
  go_ret
  exact ⟨rfl, rfl⟩
set_option maxHeartbeats 400000 in
theorem rcheck (h : IsR w S d n D) (hn : 0 < n) (i : Nat) (hi : i < n) :
    Calls Try.prog 53 #[.pointer (some ⟨d, 0, none⟩), .int .i64 (i : Int)] w fun e w' => e = .returned (.int .i64 0) ∧ w = w' := by
  obtain ⟨A, c, q0, _, _, hm, _⟩ := h.cells
  have HV := Lib.hid (rvalid h hn)
  unfold maxLen at hm
  clear h
  go_enter Try.func53, Try.ntmps53
  go_wp2_with fail
  refine HV.out.mono ?_
  rintro e w' ⟨rfl, rfl⟩
  go_wp2_with fail
  go_ret
  exact ⟨rfl, rfl⟩
set_option maxHeartbeats 400000 in
theorem rcheck_range (h : IsR w S d n D) (hn : 0 < n) (i : Int) (hi : i < 0 ∨ (n : Int) ≤ i) :
    Calls Try.prog 53 #[.pointer (some ⟨d, 0, none⟩), .int .i64 i] w fun e w' => e = .returned (.int .i64 3) ∧ w = w' := by
  obtain ⟨A, c, q0, _, _, hm, _⟩ := h.cells
  have HV := Lib.hid (rvalid h hn)
  unfold maxLen at hm
  clear h
  by_cases h0 : i < 0
  · clear hi
    go_enter Try.func53, Try.ntmps53
    go_wp2_with fail
    refine HV.out.mono ?_
    rintro e w' ⟨rfl, rfl⟩
    go_wp2_with fail
    go_ret
    exact ⟨rfl, rfl⟩
  · have h1 : (n : Int) ≤ i := by omega
    clear hi
    go_enter Try.func53, Try.ntmps53
    go_wp2_with fail
    refine HV.out.mono ?_
    rintro e w' ⟨rfl, rfl⟩
    go_wp2_with fail
    go_ret
    exact ⟨rfl, rfl⟩
set_option maxHeartbeats 400000 in
theorem rlen (h : IsR w S d n D) (hn : 0 < n) (i : Nat) (hi : i < n) :
    Calls Try.prog 57 #[.pointer (some ⟨d, 0, none⟩), .int .i64 (i : Int)] w fun e w' => e = .returned (.tuple #[.int .i64 ((D i).bytes.length : Int), .int .i64 0]) ∧ w = w' := by
  obtain ⟨A, c, q0, _, hnc, hm, hc⟩ := h.cells
  obtain ⟨ad, B, cb, rfl, a0, a1, a2, hb⟩ := hc i hi
  have HV := Lib.hid (rcheck h hn i hi)
  have hb2 := hb.2.1
  have hb1 := hb.1
  unfold maxLen at hm hb2
  clear h hc hb
  go_enter Try.func57, Try.ntmps57
  go_wp2_with fail
  refine HV.out.mono ?_
  rintro e w' ⟨rfl, rfl⟩
  go_wp2_with fail
  go_ret2
  exact ⟨rfl, rfl⟩
set_option maxHeartbeats 400000 in
theorem rdurable (h : IsR w S d n D) (hn : 0 < n) (i : Nat) (hi : i < n) :
    Calls Try.prog 58 #[.pointer (some ⟨d, 0, none⟩), .int .i64 (i : Int)] w fun e w' => e = .returned (.tuple #[.int .i64 ((D i).dur : Int), .int .i64 0]) ∧ w = w' := by
  obtain ⟨A, c, q0, _, hnc, hm, hc⟩ := h.cells
  obtain ⟨ad, B, cb, rfl, a0, a1, a2, hb⟩ := hc i hi
  have HV := Lib.hid (rcheck h hn i hi)
  unfold maxLen at hm
  clear h hc hb
  go_enter Try.func58, Try.ntmps58
  go_wp2_with fail
  refine HV.out.mono ?_
  rintro e w' ⟨rfl, rfl⟩
  go_wp2_with fail
  go_ret2
  exact ⟨rfl, rfl⟩
set_option maxHeartbeats 1000000 in
theorem rroom (h : IsR w S d n D) (hn : 0 < n) (i : Nat) (hi : i < n) :
    Calls Try.prog 59 #[.pointer (some ⟨d, 0, none⟩), .int .i64 (i : Int)] w fun e w' => e = .returned (.tuple #[.int .i64 (((D i).size : Int) - ((D i).bytes.length : Int)), .int .i64 0]) ∧ ∃ q, w' = w.drewN q := by
  obtain ⟨A, c, q0, _, hnc, hm, hc⟩ := h.cells
  obtain ⟨ad, B, cb, rfl, a0, a1, a2, hb⟩ := hc i hi
  have HV := Lib.hid (rcheck h hn i hi)
  have hb2 := hb.2.1
  have hb1 := hb.1
  obtain ⟨u1, u2, u3, u4⟩ := h.nums i hi
  unfold maxLen at hm hb2
  clear h hc hb
  go_enter Try.func59, Try.ntmps59
  go_wp2_with fail
  refine HV.out.mono ?_
  rintro e w' ⟨rfl, rfl⟩
  go_wp2_with fail
  go_quiet (fail)
  go_wp2
  go_ret2
  exact ⟨rfl, _, rfl⟩
theorem slot_info : (Try.prog.info? 87).map (fun i => (i.zero, i.size, i.bytes)) = some (some (.agg #[.int .i64 0, .slice none 0 0, .int .i64 0]), 3, 40) := by kernel_rfl
theorem made0b (w : World) : (w.alloc (.cells #[] 5)).ownsRow w.heap.size 5 1 (.slice (some ⟨w.heap.size, 0, none⟩) 0 0) 0 [] := World.ownsRow_made w #[] 0 (Nat.le_refl _) (by unfold maxLen; omega) (by simp)
theorem made0s (w : World) : (w.alloc (.cells #[] 87)).ownsRow w.heap.size 87 3 (.slice (some ⟨w.heap.size, 0, none⟩) 0 0) 0 [] := World.ownsRow_made w #[] 0 (Nat.le_refl _) (by unfold maxLen; omega) (by simp)
set_option maxHeartbeats 1000000 in
theorem rset (h : IsR w S d n D) (hn : 0 < n) (hm34 : n ≤ 65536) (i : Nat) (hi : i < n) (x : SlotD) (B : Option Addr) (cb : Nat) (hb : BytesAt w S B cb x.bytes) (hx : x.dur ≤ x.bytes.length ∧ x.bytes.length ≤ x.size ∧ 1 ≤ x.size ∧ x.size ≤ 8192) :
    Calls Try.prog 54 #[.pointer (some ⟨d, 0, none⟩), .int .i64 (i : Int), .agg #[.int .i64 (x.size : Int), .slice B x.bytes.length cb, .int .i64 (x.dur : Int)]] w fun e w' => e = .returned (.tuple #[]) ∧ RTo w w' S d n (updF D i x) := by
  obtain ⟨i0, hi0, hz0, hz1, hz2⟩ := info_parts slot_info
  obtain ⟨⟨A, c, bs, h1, h2, h3, h4⟩, h5, h6, h7⟩ := h
  obtain ⟨A', c', e, k1, k2, kr⟩ := own_slice h2
  injection e with e1 e2 e3
  subst e1 e3
  clear e2
  obtain ⟨ad, rfl, _⟩ := kr.2 hn
  have q0 : w.cell? ⟨d, 0, none⟩ = some (.slice (some ad) n c) := h1.cell 0
  have f0 : w.frozen? ⟨d, 0, none⟩ = false := h1.frozen 0
  have hdl := h1.lt
  have H1 := Lib.hid h1
  have HR := Lib.hid kr
  have H3 := Lib.hid h3
  have H4 := Lib.hid h4
  have HB := Lib.hid hb
  have H7 := Lib.hid h7
  have HX := Lib.hid hx
  have H6 := Lib.hid h6
  have H5 := Lib.hid h5
  unfold maxLen at k2
  clear h1 h2 h3 h4 h5 h6 h7 kr hx
  have hbl := HB.out.1
  have hbc := HB.out.2.1
  unfold maxLen at hbc
  clear hb
  obtain ⟨wa, hwa⟩ : ∃ wa : World, wa = w.alloc (.cells #[.int .i64 (x.size : Int), .slice B x.bytes.length cb, .int .i64 (x.dur : Int)] 87) := ⟨_, rfl⟩
  have hwas : wa.heap.size = w.heap.size + 1 := by rw [hwa]; simp
  have HB0 : Hid (Below w.heap.size w wa) := by rw [hwa]; exact (Below.refl _ _).alloc (Nat.le_refl _) _
  have HO := Lib.hid (made0s wa)
  have HRA : Hid (Reads (wa.alloc (.cells #[] 87)) w.heap.size 3 (some ad) n (rrow D bs n)) := (HR.out.below HB0.out).alloc (by omega) _
  have HP : Hid (Blk (wa.alloc (.cells #[] 87)) w.heap.size 87 #[.int .i64 (x.size : Int), .slice B x.bytes.length cb, .int .i64 (x.dur : Int)]) := by
    show Blk _ _ _ _
    rw [hwa]
    exact (Blk.new w _ _).alloc _
  have HB1 : Hid (Below w.heap.size w (wa.alloc (.cells #[] 87))) := HB0.out.alloc (by omega) _
  rw [hwa, World.size_alloc] at HO
  rw [hwa] at HRA HP HB1
  clear hwa hwas HB0
  go_enter Try.func54, Try.ntmps54
  go_wp2_with (at_builtin
               refine wpList_append_any _ rfl (.tmp 7) (.tmp 11) _ rfl (w.heap.size + 1) 87 i0 _ 3 40 Try.underlying83 hi0 hz0 hz1 hz2 rfl (by omega) (.slice (some ⟨w.heap.size + 1, 0, none⟩) 0 0) 0 [] rfl
                 HO.out w.heap.size _ n _ (rrow D bs n) rfl HRA.out (rrow_one _ _ _) (by simp only [maxLen]; omega) (by omega) (by simp) ?_
               intro v1 w4 hown1 hg1 hat1
               rw [Nat.zero_add, List.nil_append] at hown1
               have HB4 := Lib.hid (HB1.out.grown hg1 (by simp; omega) (by intro q hq; simp [Value.ownBlock] at hq; omega))
               obtain ⟨g, cap, rfl, hgb, hgl⟩ := hown1.form hn
               have HO1 := Lib.hid hown1
               have hp4 := HP.out.grown hg1 (by simp [Value.ownBlock])
               have p0 : w4.cell? ⟨w.heap.size, 0, none⟩ = some (.int .i64 (x.size : Int)) := hp4.cell 0
               have p1 : w4.cell? ⟨w.heap.size, 1, none⟩ = some (.slice B x.bytes.length cb) := hp4.cell 1
               have p2 : w4.cell? ⟨w.heap.size, 2, none⟩ = some (.int .i64 (x.dur : Int)) := hp4.cell 2
               have sl : ∀ q, q < n * 3 → w4.cell? ⟨g, q, none⟩ = some (rcell D bs q) := fun q hq => by
                 have := hown1.cells (g := g) rfl q _ (rrow_at hq)
                 rwa [add_zero_addr] at this
               have s0 := sl (i * 3) (by omega)
               have s1 := sl (i * 3 + 1) (by omega)
               have s2 := sl (i * 3 + 2) (by omega)
               have z0 : w4.frozen? ⟨g, i * 3, none⟩ = false := hown1.frozenAt _
               have z1 : w4.frozen? ⟨g, i * 3 + 1, none⟩ = false := hown1.frozenAt _
               have z2 : w4.frozen? ⟨g, i * 3 + 2, none⟩ = false := hown1.frozenAt _
               have d0 : w4.cell? ⟨d, 0, none⟩ = some (.slice (some ad) n c) := (HB4.out.cell (p := ⟨d, 0, none⟩) hdl).trans q0
               have d1 : w4.frozen? ⟨d, 0, none⟩ = false := (World.frozen?_of_block (HB4.out.block d hdl)).trans f0
               clear hown1 hg1 hat1 hp4 sl)
  go_end0
  obtain ⟨w5, hw5⟩ : ∃ w5 : World, w5 = ((w4.setCell ⟨g, i * 3, none⟩ (.int .i64 (x.size : Int))).setCell ⟨g, i * 3 + 1, none⟩ (.slice B x.bytes.length cb)).setCell ⟨g, i * 3 + 2, none⟩ (.int .i64 (x.dur : Int)) := ⟨_, rfl⟩
  have hO5 : w5.ownsRow (w.heap.size + 1) 87 3 (.slice (some ⟨g, 0, none⟩) n cap) n (rrow (updF D i x) (updF bs i (B, cb)) n) := by
    rw [hw5, ← rrow_set D bs hi x (B, cb)]
    exact (((HO1.out.stored _ _).1.stored _ _).1.stored _ _).1
  have hB5 : Below w.heap.size w w5 := by
    rw [hw5]
    exact ((HB4.out.setCell (by show w.heap.size ≤ g; omega) _).setCell (by show w.heap.size ≤ g; omega) _).setCell (by show w.heap.size ≤ g; omega) _
  have hs5 : w5.heap.size = w4.heap.size := by rw [hw5]; simp [World.setCell]
  rw [← hw5]
  have hC : Chg (fun k => k = d) w (w5.setCell ⟨d, 0, none⟩ (.slice (some ⟨g, 0, none⟩) n cap)) := (Chg.of_below (F := fun k => k = d) hB5).setCell (p := ⟨d, 0, none⟩) (.inl rfl) _
  have hSd : ∀ k, S k → k ≠ d := fun k hk e => H5.out (by rw [← e]; exact hk)
  have hO6 : (w5.setCell ⟨d, 0, none⟩ (.slice (some ⟨g, 0, none⟩) n cap)).ownsRow 0 87 3 (.slice (some ⟨g, 0, none⟩) n cap) n (rrow (updF D i x) (updF bs i (B, cb)) n) :=
    own_chg (own_base hO5 (fun _ _ => Nat.zero_le _)) ((Chg.refl (fun k => k = d) w5).setCell (p := ⟨d, 0, none⟩) (.inl rfl) _) (fun k hk e => by
      have : g = k := by simpa [Value.ownBlock] using hk
      omega)
  refine ⟨rfl, fun k => S k ∨ k = g, ⟨⟨some ⟨g, 0, none⟩, cap, updF bs i (B, cb), ?_, ?_, fun k hk => ?_, fun j hj => ?_⟩, ?_, fun k hk => ?_, fun j hj => ?_⟩, fun k hk => .inl hk, fun k hk => ?_, hC⟩
  · exact (H1.out.below hB5 hdl).set_ 0 _
  · exact hO6
  · have : g = k := by simpa [Value.ownBlock] using hk
    exact .inr this.symm
  · by_cases e : j = i
    · subst e
      rw [updF_same, updF_same]
      exact (HB.out.chg H6.out.lt hC hSd).more (fun k hk => .inl hk)
    · rw [updF_other _ _ e, updF_other _ _ e]
      exact ((H4.out j hj).chg H6.out.lt hC hSd).more (fun k hk => .inl hk)
  · rintro (h | h)
    · exact H5.out h
    · omega
  · rcases hk with hk | hk
    · exact H6.out.chg hC hSd k hk
    · refine own_cells hO6 k ?_
      rw [hk]
      rfl
  · by_cases e : j = i
    · subst e; rw [updF_same]; exact HX.out
    · rw [updF_other _ _ e]; exact H7.out j hj
  · rcases hk with hk | hk
    · exact .inl hk
    · exact .inr (by omega)
end
end Go.Proofs.Ytelobbigpgfobaa

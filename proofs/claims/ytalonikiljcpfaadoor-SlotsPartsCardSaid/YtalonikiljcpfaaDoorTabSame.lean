/-
  The walk of the slots law's same: a table's iterator against a list. Conditions: the table is as New makes it, or the table or the state is none.
-/
import Derived.Test.YtalonikiljcpfaaDoorTabOn
namespace Go.Proofs.YtalonikiljcpfaaDoor
open Go.RowKit Go.Shelf
set_option linter.unusedVariables false
attribute [local go_sem] Oper.semAt_some
set_option maxHeartbeats 400000 in
theorem tyields_any (f : Nat) (cap : Array Value) (w : World) :
    Calls Tryd.prog 49 #[.func (.func f) #[] cap] w fun e w' => e = .returned (.func (.func f) #[] cap) ∧ w = w' := by
  have hq : ∀ W, (binOp .eql 48 (.func (.func f) #[] cap) .nilFunc).run Tryd.prog W = .ok (.bool false) W := fun _ => by kernel_rfl
  go_enter Tryd.func49, Tryd.ntmps49
  go_wp2_with fail
  go_ret
  exact ⟨rfl, rfl⟩
theorem seqOn_mono {α : Type} {F : Fence} {n : Nat} {P : Program} {gf : Nat} {lb : Array Value} {encs : α → Array Value} {I : List α → World → Prop} {Px Px' : List α → α → Prop} {S Sp S' Sp' : List α → Prop} {w : World}
    (h : SeqOn F n P gf lb encs I Px S Sp w) (hP : ∀ pre x, Px pre x → Px' pre x) (hS : ∀ xs, S xs → S' xs) (hSp : ∀ xs, Sp xs → Sp' xs) : SeqOn F n P gf lb encs I Px' S' Sp' w := fun l J Jx W h1 h2 h3 h4 h5 h6 =>
  (h l J Jx W h1 h2 h3 h4 (fun pre x V hJ hp => h5 pre x V hJ (hP _ _ hp)) h6).mono fun e W' ⟨h7, h8⟩ => ⟨h7, h8.imp (fun ⟨xs, a, b⟩ => ⟨xs, hS _ a, b⟩) (fun ⟨xs, a, b⟩ => ⟨xs, hSp _ a, b⟩)⟩
theorem pre_next {L : List Bool} {x : Nat} (h : inL L x = true) : slotsTo L x ++ [x] <+: slotsOf L := by
  have h1 := slots_to L x
  rw [h] at h1
  have h2 : slotsTo L x ++ [x] = slotsTo L (x + 1) := h1.symm
  rw [h2]
  have hx := inL_lt h
  have h3 : List.range (x + 1) <+: List.range L.length := by
    refine ⟨(List.range (L.length - (x + 1))).map (fun y => x + 1 + y), ?_⟩
    rw [← List.range_add]
    congr 1
    omega
  exact List.IsPrefix.filter _ h3
theorem pre_at {E pre : List Nat} {x : Nat} (h : pre ++ [x] <+: E) : E[pre.length]? = some x ∧ pre.length < E.length := by
  obtain ⟨t, rfl⟩ := h
  simp
theorem five_blocks (w : World) (v0 v1 v2 v3 v4 : Value) (t0 t1 t2 t3 t4 : TypeId) {W0 : World} (h : W0 = ((((w.alloc (.cells #[v0] t0)).alloc (.cells #[v1] t1)).alloc (.cells #[v2] t2)).alloc (.cells #[v3] t3)).alloc (.cells #[v4] t4)) :
    Below w.heap.size w W0 ∧ W0.heap.size = w.heap.size + 5 ∧ Blk W0 w.heap.size t0 #[v0] ∧ Blk W0 (w.heap.size + 1) t1 #[v1] ∧ Blk W0 (w.heap.size + 1 + 1) t2 #[v2] ∧ Blk W0 (w.heap.size + 1 + 1 + 1) t3 #[v3] ∧ Blk W0 (w.heap.size + 1 + 1 + 1 + 1) t4 #[v4] := by
  subst h
  refine ⟨(((((Below.refl w.heap.size w).alloc (Nat.le_refl _) _).alloc (by simp) _).alloc (by simp; omega) _).alloc (by simp; omega) _).alloc (by simp; omega) _, by simp, ((((Blk.new w _ _).alloc _).alloc _).alloc _).alloc _, ?_, ?_, ?_, ?_⟩
  · have := (((Blk.new (w.alloc (.cells #[v0] t0)) t1 #[v1]).alloc (.cells #[v2] t2)).alloc (.cells #[v3] t3)).alloc (.cells #[v4] t4)
    rwa [World.size_alloc] at this
  · have := ((Blk.new ((w.alloc (.cells #[v0] t0)).alloc (.cells #[v1] t1)) t2 #[v2]).alloc (.cells #[v3] t3)).alloc (.cells #[v4] t4)
    rwa [World.size_alloc, World.size_alloc] at this
  · have := (Blk.new (((w.alloc (.cells #[v0] t0)).alloc (.cells #[v1] t1)).alloc (.cells #[v2] t2)) t3 #[v3]).alloc (.cells #[v4] t4)
    rwa [World.size_alloc, World.size_alloc, World.size_alloc] at this
  · have := Blk.new ((((w.alloc (.cells #[v0] t0)).alloc (.cells #[v1] t1)).alloc (.cells #[v2] t2)).alloc (.cells #[v3] t3)) t4 #[v4]
    rwa [World.size_alloc, World.size_alloc, World.size_alloc, World.size_alloc] at this
set_option maxRecDepth 100000 in
set_option maxHeartbeats 8000000 in
theorem same_gen (w : World) (p0 : Option Addr) (st : Int) (E : List Nat) (A : Option Addr) (n c : Nat) (hn : n = E.length) (hn34 : n ≤ 64) (hr : Reads w w.heap.size 1 A n (nats E))
    (hseq : ∀ (W0 : World) (B1 B2 : Nat) (I : List Nat → World → Prop), (∀ V, I [] V → V.cell? ⟨B1, 0, none⟩ = some (.pointer p0) ∧ V.cell? ⟨B2, 0, none⟩ = some (.int .i64 st) ∧ Below w.heap.size w V) →
      SeqOn Fence.wide 4 Tryd.prog 46 #[.pointer (some ⟨B1, 0, none⟩), .pointer (some ⟨B2, 0, none⟩)] (fun x : Nat => #[Value.int .i64 (x : Int)]) I (fun pre x => pre ++ [x] <+: E) (fun xs => xs = E) (fun _ => True) W0) :
    Calls Tryd.prog 28 #[.pointer p0, .int .i64 st, .slice A n c] w fun e w' => e = .returned (.bool true) ∧ Below w.heap.size w w' := by
  refine (callsIn_wide (n := 5)).1 ?_
  have HE : Hid (n = E.length) := hn
  have HR := Lib.hid hr
  have HSEQ := Lib.hid hseq
  clear hn hr hseq
  refine callsIn_of_wp_marks Tryd.func28 rfl trivial ?_ rfl
  simp only [Tryd.ntmps28, List.size_toArray, List.length_cons, List.length_nil, Nat.reduceAdd, Nat.reduceSub, Array.replicate_succ, Array.replicate_zero, List.push_toArray, List.append_toArray, List.nil_append, List.cons_append]
  gi_wp2_with (first
    | (refine ⟨trivial, ?_⟩; gi_at_call 26; refine (callsIn_wide.2 (in_any _ _ _)).mono ?_; rintro e w' ⟨rfl, rfl⟩)
    | (refine ⟨trivial, ?_⟩; gi_at_call 49; refine (callsIn_wide.2 (tyields_any _ _ _)).mono ?_; rintro e w' ⟨rfl, rfl⟩))
  obtain ⟨W0, hW0⟩ : ∃ W0 : World, W0 = ((((w.alloc (.cells #[.slice A n c] 27)).alloc (.cells #[.bool false] 4)).alloc (.cells #[.int .i64 0] 3)).alloc (.cells #[.pointer p0] 24)).alloc (.cells #[.int .i64 st] 3) := ⟨_, rfl⟩
  rw [← hW0]
  obtain ⟨hB0, hs0, m0, m1, m2, m3, m4⟩ := five_blocks w (.slice A n c) (.bool false) (.int .i64 0) (.pointer p0) (.int .i64 st) 27 4 3 24 3 hW0
  obtain ⟨b0, hb0⟩ : ∃ b0, b0 = w.heap.size := ⟨_, rfl⟩
  obtain ⟨b1, hb1⟩ : ∃ b1, b1 = w.heap.size + 1 := ⟨_, rfl⟩
  obtain ⟨b2, hb2⟩ : ∃ b2, b2 = w.heap.size + 1 + 1 := ⟨_, rfl⟩
  obtain ⟨b3, hb3⟩ : ∃ b3, b3 = w.heap.size + 1 + 1 + 1 := ⟨_, rfl⟩
  obtain ⟨b4, hb4⟩ : ∃ b4, b4 = w.heap.size + 1 + 1 + 1 + 1 := ⟨_, rfl⟩
  rw [← hb4, ← hb3, ← hb2, ← hb1]
  rw [← hb1] at m1
  rw [← hb2] at m2
  rw [← hb3] at m3
  rw [← hb4] at m4
  have HBN : Hid (b0 = w.heap.size ∧ b1 = w.heap.size + 1 ∧ b2 = w.heap.size + 2 ∧ b3 = w.heap.size + 3 ∧ b4 = w.heap.size + 4 ∧ W0.heap.size = w.heap.size + 5) := ⟨by omega, by omega, by omega, by omega, by omega, by omega⟩
  rw [← hb0]
  rw [← hb0] at m0
  clear hW0 hb0 hb1 hb2 hb3 hb4 hs0
  refine wpIn_rangeFunc_on rfl (by omega) (gf := 46) (lb := #[.pointer (some ⟨b3, 0, none⟩), .pointer (some ⟨b4, 0, none⟩)]) rfl trivial (enters_of Tryd.func46 (by kernel_rfl) rfl)
    (fun pre V => Below w.heap.size w V ∧ Blk V b0 27 #[.slice A n c] ∧ Blk V b1 4 #[.bool false] ∧ Blk V b2 3 #[.int .i64 (pre.length : Int)] ∧ Blk V b3 24 #[.pointer p0] ∧ Blk V b4 3 #[.int .i64 st])
    (fun c pre V => False)
    (HSEQ.out W0 b3 b4 _ (fun V hV => ⟨hV.2.2.2.2.1.cell 0, hV.2.2.2.2.2.cell 0, hV.1⟩)) (fun _ => rfl)
    ?hI (fun c _ _ _ _ h _ _ => h) ⟨hB0, m0, m1, m2, m3, m4⟩
    (fun x => { tmps := #[.pointer p0, .int .i64 st, .slice A n c, undef, undef, .pointer (some ⟨b0, 0, none⟩), .pointer (some ⟨b1, 0, none⟩), .pointer (some ⟨b2, 0, none⟩), .int .i64 (x : Int), .pointer p0, .int .i64 st,
      .func (.func 46) #[] #[.pointer (some ⟨b3, 0, none⟩), .pointer (some ⟨b4, 0, none⟩)], .func (.func 46) #[] #[.pointer (some ⟨b3, 0, none⟩), .pointer (some ⟨b4, 0, none⟩)], .int .i64 (x : Int),
      undef, undef, undef, undef, undef, undef, undef, undef, undef, undef, undef, undef, undef, undef, undef, undef, undef, undef], defers := [] }) ?assign ?body ?done ?stop
  case hI =>
    rintro pre V V' row ⟨a0, a1, a2, a3, a4, a5⟩ hg hr
    have hbn := HBN.out
    have ne : ∀ k, k < W0.heap.size → some k ≠ row := fun k hk e => by have := (hr k e.symm).1; omega
    exact ⟨a0.trans ⟨hg.os, hg.tape, hg.output, hg.size, fun k hk => hg.block k (by have := a0.size; omega) (ne k (by omega))⟩, a1.grown hg (ne _ (by omega)), a2.grown hg (ne _ (by omega)), a3.grown hg (ne _ (by omega)), a4.grown hg (ne _ (by omega)), a5.grown hg (ne _ (by omega))⟩
  case assign =>
    intro l' x V K hK
    gi_wp2
    exact hK
  case body =>
    rintro l' pre x V ⟨a0, a1, a2, a3, a4, a5⟩ hpx hVs
    obtain ⟨hx, hlt⟩ := pre_at hpx
    rw [← HE.out] at hlt
    obtain ⟨ad, u, rfl, hab, hu, hc⟩ := (HR.out.below a0).at_ hlt
    unfold nats at hu
    rw [List.getElem?_map, hx] at hu
    simp only [Option.map_some, Option.some.injEq] at hu
    subst hu
    obtain ⟨k, hk⟩ : ∃ k, pre.length = k := ⟨_, rfl⟩
    have hk' : (pre ++ [x]).length = k + 1 := by rw [List.length_append, hk]; rfl
    have HK' := Lib.hid hk'
    rw [hk] at a3 hc hlt
    have q1 : V.cell? ⟨b0, 0, none⟩ = some (.slice (some ad) n c) := a1.cell 0
    have q3 : V.cell? ⟨b2, 0, none⟩ = some (.int .i64 (k : Int)) := a3.cell 0
    have f3 := a3.frozen 0
    have A0 := Lib.hid a0
    have A1 := Lib.hid a1
    have A2 := Lib.hid a2
    have A3 := Lib.hid a3
    have A4 := Lib.hid a4
    have A5 := Lib.hid a5
    have hbx : ((x : Int) != (x : Int)) = false := by simp
    clear a0 a1 a2 a3 a4 a5 hpx hx hk hk' hab
    gi_wp2
    have hbn := HBN.out
    have hs3 := (Blk.set_ A3.out 0 (.int .i64 ((k : Int) + 1)))
    refine ⟨KeepsAll.of_chg (F := fun q => q = b2) ((Chg.refl (fun q => q = b2) V).setCell (p := ⟨b2, 0, none⟩) (.inl rfl) _) (fun q hq => by have e : q = b2 := hq; omega), A0.out.setCell (p := ⟨b2, 0, none⟩) (by show w.heap.size ≤ b2; omega) _, A1.out.far (show b0 ≠ b2 by omega) _, A2.out.far (show b1 ≠ b2 by omega) _, ?_, A4.out.far (show b3 ≠ b2 by omega) _, A5.out.far (show b4 ≠ b2 by omega) _⟩
    rw [HK'.out]
    exact hs3
  case done =>
    rintro D xs V hD rfl ⟨a0, a1, a2, a3, a4, a5⟩ hK
    have q1 : V.cell? ⟨b0, 0, none⟩ = some (.slice A n c) := a1.cell 0
    have q2 : V.cell? ⟨b1, 0, none⟩ = some (.bool false) := a2.cell 0
    have f2 := a2.frozen 0
    have q3 : V.cell? ⟨b2, 0, none⟩ = some (.int .i64 (n : Int)) := by rw [HE.out]; exact a3.cell 0
    have A0 := Lib.hid a0
    have A2 := Lib.hid a2
    have HK := Lib.hid hK
    clear a0 a1 a2 a3 a4 a5 hK
    gi_wp2
    have hcf : (V.setCell ⟨b1, 0, none⟩ (.bool true)).cell? ⟨b1, 0, none⟩ = some (.bool true) := World.cell?_setCell_same' _ _ _ (by rw [q2]; rfl)
    have hbn := HBN.out
    have hK' : (V.setCell ⟨b1, 0, none⟩ (.bool true)).heap[D]? = some (.deferred (some [])) := (KeepsOthers.setCell V ⟨b1, 0, none⟩ (.bool true)).same D _ HK.out rfl
    refine ⟨by simp, .inl ⟨_, _, rfl, run_takeDeferred hK', ?_⟩⟩
    have hc5 := cell_kept hcf (grownBy_putObj' _ D (.deferred none)) (fun r e => by cases e; exact ⟨_, hK', rfl⟩)
    refine ⟨.bool true, ?_, rfl, (A0.out.setCell (p := ⟨b1, 0, none⟩) (by show w.heap.size ≤ b1; omega) _).trans (belowK_b (w := w) (Nat.le_refl _) _ D _ _ (by omega) hK' rfl rfl)⟩
    simp [results, Tryd.f28, go_sem, hc5]
  case stop =>
    rintro D c pre V hD hpre hno hK
    exact hno.elim
/-- What a table shows in a state. -/
def shown (T : List Nat) (st : Int) : List Nat := if 0 ≤ st ∧ st < 5 then slotsOf (memb T st.toNat) else []
set_option maxHeartbeats 4000000 in
/-- The iterator of no table, or of no state. -/
theorem in1_none (p0 : Option Addr) (st : Int) (B1 B2 : Nat) (ok : Bool) (I : List Nat → World → Prop) (w : World)
    (hI : ∀ V, I [] V → V.cell? ⟨B1, 0, none⟩ = some (.pointer p0) ∧ V.cell? ⟨B2, 0, none⟩ = some (.int .i64 st) ∧ ∀ V', Below V.heap.size V V' → Calls Tryd.prog 38 #[.pointer p0] V' fun e w' => e = .returned (.bool ok) ∧ V' = w')
    (hno : ok = false ∨ st < 0 ∨ 5 ≤ st) :
    SeqOn Fence.wide 4 Tryd.prog 46 #[.pointer (some ⟨B1, 0, none⟩), .pointer (some ⟨B2, 0, none⟩)] (fun x : Nat => #[Value.int .i64 (x : Int)]) I (fun pre x => pre ++ [x] <+: ([] : List Nat)) (fun xs => xs = []) (fun _ => True) w := by
  rintro l J Jx W hbW hJI hOJ hOX hY h0
  obtain ⟨c1, c2, hv⟩ := hI _ (hJI _ _ h0)
  obtain ⟨W1, hW1⟩ : ∃ W1, W1 = W.alloc (.cells #[.func (.yield l) #[] #[]] 71) := ⟨_, rfl⟩
  have hb1 : Below W.heap.size W W1 := by rw [hW1]; exact (Below.refl _ _).alloc (Nat.le_refl _) _
  have d1 : W1.cell? ⟨B1, 0, none⟩ = some (.pointer p0) := (hb1.cell (p := ⟨B1, 0, none⟩) (block_lt_of_cell c1)).trans c1
  have d2 : W1.cell? ⟨B2, 0, none⟩ = some (.int .i64 st) := (hb1.cell (p := ⟨B2, 0, none⟩) (block_lt_of_cell c2)).trans c2
  have HV := Lib.hid (hv W1 hb1)
  have HJ := Lib.hid (of_below hOJ h0 hb1)
  clear hJI hOJ hOX hY h0 c1 c2 hI hv hb1
  rw [hW1] at HV d1 d2 HJ
  clear hW1
  refine callsIn_of_wp_marks Tryd.func46 rfl trivial ?_ rfl
  simp only [Tryd.ntmps46, List.size_toArray, List.length_cons, List.length_nil, Nat.reduceAdd, Nat.reduceSub, Array.replicate_succ, Array.replicate_zero, List.push_toArray, List.append_toArray, List.nil_append, List.cons_append]
  cases ok with
  | false =>
    clear hno
    gi_wp2_with (refine ⟨trivial, ?_⟩; gi_at_call 38; refine (callsIn_wide.2 HV.out).mono ?_; rintro e w' ⟨rfl, rfl⟩)
    exact ⟨_, results_none rfl _ _ _, ⟨_, rfl⟩, .inl ⟨[], rfl, HJ.out⟩⟩
  | true =>
    by_cases h1 : st < 0
    · clear hno
      gi_wp2_with (refine ⟨trivial, ?_⟩; gi_at_call 38; refine (callsIn_wide.2 HV.out).mono ?_; rintro e w' ⟨rfl, rfl⟩)
      exact ⟨_, results_none rfl _ _ _, ⟨_, rfl⟩, .inl ⟨[], rfl, HJ.out⟩⟩
    · have h2 : 5 ≤ st := by
        rcases hno with e | e | e
        · cases e
        · omega
        · exact e
      clear hno
      gi_wp2_with (refine ⟨trivial, ?_⟩; gi_at_call 38; refine (callsIn_wide.2 HV.out).mono ?_; rintro e w' ⟨rfl, rfl⟩)
      exact ⟨_, results_none rfl _ _ _, ⟨_, rfl⟩, .inl ⟨[], rfl, HJ.out⟩⟩
theorem same_tab {w : World} {g r : Nat} {p : Nat → Nat} {T : List Nat} (h : IsTab w g p r T) (st : Int) (A : Option Addr) (n c : Nat) (hn : n = (shown T st).length) (hr : Reads w w.heap.size 1 A n (nats (shown T st))) :
    Calls Tryd.prog 28 #[.pointer (some ⟨g, 0, none⟩), .int .i64 st, .slice A n c] w fun e w' => e = .returned (.bool true) ∧ Below w.heap.size w w' := by
  have hn64 : n ≤ 64 := by
    rw [hn]
    unfold shown
    split
    · have := slotsOf_le (memb T st.toNat)
      rw [memb_length] at this
      have := h.le
      omega
    · simp
  refine same_gen w _ st (shown T st) A n c hn hn64 hr (fun W0 B1 B2 I hI => ?_)
  unfold shown
  by_cases hs : 0 ≤ st ∧ st < 5
  · rw [if_pos hs]
    obtain ⟨s, rfl⟩ : ∃ s : Nat, st = (s : Int) := ⟨st.toNat, by omega⟩
    rw [Int.toNat_natCast]
    exact seqOn_mono (in1_on B1 B2 g r s p T (by omega) I W0 (fun V hV => ⟨(hI V hV).1, (hI V hV).2.1, h.below (hI V hV).2.2⟩)) (fun pre x ⟨e, hx⟩ => by rw [e]; exact pre_next hx) (fun _ h => h) (fun _ _ => trivial)
  · rw [if_neg hs]
    exact in1_none _ st B1 B2 true I W0 (fun V hV => ⟨(hI V hV).1, (hI V hV).2.1, fun V' hV' => tvalid ((h.below (hI V hV).2.2).below hV')⟩) (.inr (by omega))
end Go.Proofs.YtalonikiljcpfaaDoor

/-
  The document's New (drumlinref10). Condition: the sizes can be read.
-/
import Derived.Test.YtelobbigpgfobaaRdisk4
import Derived.Deep.RegionLaw
namespace Go.Proofs.Ytelobbigpgfobaa
open Go.RowKit
set_option linter.unusedVariables false
theorem rrow_congr {D : Nat → SlotD} {bs bs' : Bts} {n : Nat} (h : ∀ i, i < n → bs' i = bs i) : rrow D bs' n = rrow D bs n := by
  unfold rrow
  apply List.map_congr_left
  intro q hq
  have : q / 3 < n := by have := List.mem_range.1 hq; omega
  unfold rcell
  rw [h _ this]
/-- What the document's New gives. -/
def RNewQ (w : World) (zs : List Int) (n : Nat) (e : Ending) (w' : World) : Prop :=
  ((∀ z ∈ zs, okSize z) ∧ ∃ d S, e = .returned (.tuple #[.pointer (some ⟨d, 0, none⟩), .int .i64 0]) ∧ IsR w' S d n (newD zs) ∧ w.heap.size ≤ d ∧ (∀ k, S k → w.heap.size ≤ k) ∧ Below w.heap.size w w') ∨
    ((∃ z ∈ zs, ¬ okSize z) ∧ e = .returned (.tuple #[.pointer none, .int .i64 2]) ∧ Below w.heap.size w w')
set_option maxHeartbeats 400000 in
theorem rnew_len (A : Option Addr) (n c : Nat) (w : World) (h : n < 1 ∨ 34 < n) (hm : n ≤ maxLen) :
    Calls Try.prog 24 #[.slice A n c] w fun e w' => e = .returned (.tuple #[.pointer none, .int .i64 2]) ∧ w = w' := by
  unfold maxLen at hm
  by_cases h1 : n < 1
  · clear h
    go_enter Try.func24, Try.ntmps24
    go_wp2_with fail
    go_ret2
    exact ⟨rfl, rfl⟩
  · have h2 : 34 < n := by omega
    clear h
    go_enter Try.func24, Try.ntmps24
    go_wp2_with fail
    go_ret2
    exact ⟨rfl, rfl⟩
theorem isR_new (w : World) (D : Nat → SlotD) : IsR (w.alloc (.cells #[.slice none 0 0] 85)) (fun _ => False) w.heap.size 0 D :=
  ⟨⟨none, 0, fun _ => (none, 0), Blk.new w _ _, World.ownsRow_nil _ _ _ _, fun k hk => by simp [Value.ownBlock] at hk, fun i hi => by omega⟩, fun h => h, fun _ h => h.elim, fun i hi => by omega⟩
theorem reads_newx (W : World) (t : TypeId) (cs : Array Value) (fr : Nat × Nat) (n k : Nat) (hn : n * k = cs.size) :
    Reads (W.alloc (.cells cs t fr)) (W.heap.size + 1) k (some ⟨W.heap.size, 0, none⟩) n cs.toList := by
  refine ⟨by simp [hn], fun _ => ⟨_, rfl, by simp, fun j u hu => ?_⟩⟩
  rw [add_zero_addr, cell_of_row _ _ j _ t fr (heap_alloc_new W _)]
  simpa using hu
theorem one_three (z : Int) : ∀ u ∈ [Value.int .i64 z, .slice none 0 0, .int .i64 0], u.oneCell' = true := by
  intro u hu
  simp only [List.mem_cons, List.not_mem_nil, or_false] at hu
  rcases hu with rfl | rfl | rfl <;> rfl
set_option maxHeartbeats 4000000 in
theorem rnew_any (A : Option Addr) (n c : Nat) (zs : List Int) (w : World) (hr : Reads w w.heap.size 1 A n (ints zs)) (h1 : 1 ≤ n) (h2 : n ≤ 34) :
    Calls Try.prog 24 #[.slice A n c] w (RNewQ w zs n) := by
  obtain ⟨i0, hi0, hz0, hz1, hz2⟩ := info_parts slot_info
  have hlen : zs.length = n := by have := hr.1; rw [ints_length] at this; omega
  have HR := Lib.hid hr
  have HL := Lib.hid hlen
  clear hr hlen
  go_enter Try.func24, Try.ntmps24
  go_wp2_with fail
  go_loopg [5] n (fun q v5 wr => ∃ (j : Nat) (S : Nat → Prop), j + q = n ∧ v5 = .int .i64 j ∧ (∀ i, i < j → okSize (zs.getD i 0)) ∧ IsR wr S w.heap.size j (newD zs) ∧ (∀ k, S k → w.heap.size ≤ k) ∧ Below w.heap.size w wr)
  case atStart => exact ⟨0, fun _ => False, by omega, rfl, (fun i hi => by omega), isR_new w _, fun k hk => hk.elim, by go_grown⟩
  case round =>
    obtain ⟨j, S, hj, rfl, hok, hd, hf, hb⟩ := hrel
    have HOK := Lib.hid hok
    clear hok
    have hj' : j ≤ n := by omega
    have HJ := Lib.hid hj
    have HD := Lib.hid hd
    have HF := Lib.hid hf
    have HB := Lib.hid hb
    by_cases hlt : j < n
    · obtain ⟨ad, u, rfl, hab, hx, hc⟩ := (HR.out.below hb).at_ hlt
      have hjz : j < zs.length := by rw [HL.out]; exact hlt
      rw [ints_at hjz] at hx
      injection hx with hx
      subst hx
      obtain ⟨z, hzz⟩ : ∃ z, zs[j] = z := ⟨_, rfl⟩
      have HZ := Lib.hid hzz
      rw [hzz] at hc
      by_cases hok : ¬ okSize z
      · have HNO := Lib.hid hok
        have HM := Lib.hid (List.getElem_mem hjz)
        by_cases hb1 : z < 1
        · clear hj hd hf hb hok hzz
          go_wp2_with fail
          go_ret2
          exact .inr ⟨⟨z, by rw [← HZ.out]; exact HM.out, HNO.out⟩, rfl, HB.out⟩
        · have hb2 : 8192 < z := by unfold okSize at hok; omega
          clear hj hd hf hb hok hzz
          go_wp2_with fail
          go_ret2
          exact .inr ⟨⟨z, by rw [← HZ.out]; exact HM.out, HNO.out⟩, rfl, HB.out⟩
      replace hok : okSize z := by by_cases e : okSize z; exact e; exact absurd e hok
      have HOK2 : Hid (∀ i, i < j + 1 → okSize (zs.getD i 0)) := fun i hi => by
        by_cases e : i = j
        · subst e
          rw [List.getD_eq_getElem?_getD, List.getElem?_eq_getElem hjz, Option.getD_some, hzz]
          exact hok
        · exact HOK.out i (by omega)
      obtain ⟨z', rfl⟩ : ∃ z' : Nat, z = (z' : Int) := ⟨z.toNat, by have := hok.1; omega⟩
      have hz1' : 1 ≤ z' := by have := hok.1; omega
      have hz2' : z' ≤ 8192 := by have := hok.2; omega
      have HDJ : Hid (newD zs j = ⟨z', [], 0⟩) := by
        show _ = _
        unfold newD
        rw [List.getD_eq_getElem?_getD, List.getElem?_eq_getElem hjz, Option.getD_some, hzz]
        rfl
      obtain ⟨⟨A4, c4, bs, k1, k2, k3, k4⟩, k5, k6, k7⟩ := hd
      obtain ⟨A5, c5, e5, k8, k9, _⟩ := own_slice k2
      injection e5 with e6 e7 e8
      subst e6 e8
      clear e7
      have q0 : wr.cell? ⟨w.heap.size, 0, none⟩ = some (.slice A4 j c4) := k1.cell 0
      have f0 : wr.frozen? ⟨w.heap.size, 0, none⟩ = false := k1.frozen 0
      have hdl : w.heap.size < wr.heap.size := k1.lt
      have K1 := Lib.hid k1
      have K2 := Lib.hid k2
      have K3 := Lib.hid k3
      have K4 := Lib.hid k4
      have K5 := Lib.hid k5
      have K6 := Lib.hid k6
      have K7 := Lib.hid k7
      unfold maxLen at k9
      clear hj hf hb hok hzz k1 k2 k3 k4 k5 k6 k7
      go_wp2_with fail
      go_region_law (first
        | (refine step_append_any _ (by rfl) (.tmp 38) (.tmp 44) _ (by rfl) 0 87 i0 _ 3 40 Try.underlying83 hi0 hz0 hz1 hz2 (by rfl) (by omega) (.slice A4 j c4) j (rrow (newD zs) bs j) (by rfl)
            (K2.out.alloc _) (wr.heap.size + 1) _ 1 1 [.int .i64 (z' : Int), .slice none 0 0, .int .i64 0] (by rfl) (reads_newx wr 87 #[.int .i64 (z' : Int), .slice none 0 0, .int .i64 0] (0, 0) 1 3 rfl) (one_three _) (by simp only [maxLen]; omega) (by omega) (Nat.zero_le _) ?_; intro v1 w4 hown1 hg1 hat1
           obtain ⟨A6, c6, rfl, hA6, hc6, _⟩ := own_slice hown1
           have HG1 := Lib.hid hg1
           have HO1 := Lib.hid hown1
           have HA1 := Lib.hid hat1
           have hcw : w4.cell? ⟨w.heap.size, 0, none⟩ = some (.slice A4 j c4) := by
             rw [World.cell?_of_block (hg1.block w.heap.size (by simp; omega) (fun e => K5.out (K3.out _ e.symm)))]
             exact ((((Below.refl wr.heap.size wr).alloc (Nat.le_refl _) _).drew).cell (p := ⟨w.heap.size, 0, none⟩) hdl).trans q0
           have hfw : w4.frozen? ⟨w.heap.size, 0, none⟩ = false := by
             rw [World.frozen?_of_block (hg1.block w.heap.size (by simp; omega) (fun e => K5.out (K3.out _ e.symm)))]
             rw [World.frozen?_of_block ((((Below.refl wr.heap.size wr).alloc (Nat.le_refl _) _).drew).block w.heap.size hdl)]
             exact f0
           clear hown1 hg1 hat1))
      all_goals
        go_wp2_with fail
        go_roundg (gk - 1)
        case measure => have := HJ.out; omega
        case rel =>
          have hb4 : Below wr.heap.size wr (wr.alloc (.cells #[.int .i64 (z' : Int), .slice none 0 0, .int .i64 0] 87)).drew := ((Below.refl wr.heap.size wr).alloc (Nat.le_refl _) _).drew
          have hc4 : Chg (fun k => S k) wr w4 := (Chg.of_below (F := fun k => S k) hb4).trans ((Chg.refl (fun k => S k) _).grown HG1.out (fun q hq => .inl (K3.out q hq))) (fun _ _ h => h)
          have hlt6 : ∀ k, (Value.slice A6 (j + 1) c6).ownBlock = some k → k < w4.heap.size := fun k hk => (HO1.out.lt k hk).2
          have hS6 : ∀ k, (Value.slice A6 (j + 1) c6).ownBlock = some k → S k ∨ wr.heap.size < k := fun k hk => by
            rcases HA1.out with e | e
            · rw [e] at hk; exact .inl (K3.out k hk)
            · rw [e] at hk
              injection hk with hk
              exact .inr (by rw [← hk]; simp)
          have hO7 : (w4.setCell ⟨w.heap.size, 0, none⟩ (.slice A6 (j + 1) c6)).ownsRow 0 87 3 (.slice A6 (j + 1) c6) (j + 1) (rrow (newD zs) bs j ++ [.int .i64 (z' : Int), .slice none 0 0, .int .i64 0]) :=
            own_chg HO1.out ((Chg.refl (fun k => k = w.heap.size) w4).setCell (p := ⟨w.heap.size, 0, none⟩) (.inl rfl) _) (fun k hk e => by
              rcases hS6 k hk with h | h
              · exact K5.out (by rw [← e]; exact h)
              · omega)
          refine ⟨j + 1, fun k => (Value.slice A6 (j + 1) c6).ownBlock = some k, by have := HJ.out; omega, by go_num, HOK2.out, ⟨⟨A6, c6, updF bs j (none, 0), ?_, ?_, fun k hk => hk, fun i hi => ?_⟩, ?_, ?_, fun i hi => ?_⟩, ?_, ?_⟩
          · exact (K1.out.chg hc4 K5.out).set_ 0 _
          · have e : rrow (newD zs) (updF bs j (none, 0)) (j + 1) = rrow (newD zs) bs j ++ [.int .i64 (z' : Int), .slice none 0 0, .int .i64 0] := by
              rw [← rrow_snoc, updF_same, HDJ.out, rrow_congr (fun i hi => updF_other _ _ (by omega))]
              rfl
            rw [e]
            exact hO7
          · by_cases e : i = j
            · subst e
              rw [updF_same, HDJ.out]
              exact BytesAt.nil_ _ _
            · rw [updF_other _ _ e]
              have hk := K4.out i (by omega)
              exact ⟨hk.1, hk.2.1, fun h => absurd h (by show ¬ 0 < ([] : List (BitVec 8)).length; simp)⟩
          · intro e
            rcases hS6 _ e with h | h
            · exact K5.out h
            · omega
          · exact own_cells hO7
          · by_cases e : i = j
            · subst e
              rw [HDJ.out]
              exact ⟨Nat.le_refl _, Nat.zero_le _, hz1', hz2'⟩
            · exact K7.out i (by omega)
          · intro k e
            rcases hS6 k e with h | h
            · exact HF.out k h
            · omega
          · exact (HB.out.trans (hc4.below HB.out.size HF.out)).setCell (Nat.le_refl _) _
    · have e8 : j = n := by omega
      subst e8
      clear hj hd hf hb
      go_wp2_with fail
      go_ret2
      refine .inl ⟨fun z hz => ?_, _, S, rfl, HD.out, Nat.le_refl _, HF.out, HB.out⟩
      obtain ⟨i, hi, rfl⟩ := List.getElem_of_mem hz
      have := HOK.out i (by rw [← HL.out]; exact hi)
      rwa [List.getD_eq_getElem?_getD, List.getElem?_eq_getElem hi, Option.getD_some] at this
end Go.Proofs.Ytelobbigpgfobaa

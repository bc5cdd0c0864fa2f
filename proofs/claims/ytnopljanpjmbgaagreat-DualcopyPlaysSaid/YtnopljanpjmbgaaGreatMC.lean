/-
  A disk in memory: its block, its row of images, the images; what the calls' own changes leave; A disk's methods: New, valid, Slots, and what goes through a closure; A disk's methods: Append, Sync, Erase, Read, Len, Durable, Room; A disk's methods: Len, Durable, Room, Read; A disk's New; A disk's Copy.
-/
import Derived.Test.YtnopljanpjmbgaaGreatMA
import Derived.Test.YtnopljanpjmbgaaGreatMB
import Derived.Deep.QuietTactic
import Derived.BigQuiet
import Derived.Deep.AppendLies
import Derived.Deep.RegionLaw
namespace Go.Proofs.YtnopljanpjmbgaaGreat
open Go.RowKit
set_option linter.unusedVariables false
/-- What a slot holds. -/
structure SlotD where
  size : Nat
  bytes : List (BitVec 8)
  dur : Nat
/-- Where each slot's image lies: its block, and its bytes' block. -/
abbrev Lay := Nat → Nat × Option Nat
def updF {α : Type} (f : Nat → α) (i : Nat) (x : α) : Nat → α := fun j => if j = i then x else f j
theorem updF_same {α : Type} (f : Nat → α) (i : Nat) (x : α) : updF f i x i = x := by simp [updF]
theorem updF_other {α : Type} (f : Nat → α) {i j : Nat} (x : α) (h : j ≠ i) : updF f i x j = f j := by simp [updF, h]
def ptrsTo (lay : Lay) (n : Nat) : List Value := (List.range n).map fun i => .pointer (some ⟨(lay i).1, 0, none⟩)
theorem ptrsTo_length (lay : Lay) (n : Nat) : (ptrsTo lay n).length = n := by simp [ptrsTo]
theorem ptrsTo_at (lay : Lay) {n i : Nat} (h : i < n) : (ptrsTo lay n)[i]? = some (.pointer (some ⟨(lay i).1, 0, none⟩)) := by simp [ptrsTo, h]
theorem ptrsTo_congr {lay lay' : Lay} {n : Nat} (h : ∀ i, i < n → (lay' i).1 = (lay i).1) : ptrsTo lay' n = ptrsTo lay n := by
  unfold ptrsTo
  apply List.map_congr_left
  intro i hi
  rw [h i (List.mem_range.1 hi)]
theorem ptrsTo_succ (lay : Lay) (n : Nat) : ptrsTo lay (n + 1) = ptrsTo lay n ++ [.pointer (some ⟨(lay n).1, 0, none⟩)] := by simp [ptrsTo, List.range_succ]
/-- A slot's blocks. -/
def sfoot (lay : Lay) (i : Nat) : Nat → Prop := foot (lay i).1 (lay i).2
/-- A disk's blocks. -/
def dfoot (d : Nat) (rb : Option Nat) (n : Nat) (lay : Lay) : Nat → Prop := fun k => k = d ∨ rb = some k ∨ ∃ i, i < n ∧ sfoot lay i k
structure IsDisk (w : World) (d : Nat) (rb : Option Nat) (n : Nat) (lay : Lay) (D : Nat → SlotD) : Prop where
  row : ∃ A c, Blk w d 132 #[.slice A n c] ∧ w.ownsRow 0 118 1 (.slice A n c) n (ptrsTo lay n) ∧ rb = (Value.slice A n c).ownBlock
  ne : rb ≠ some d
  img : ∀ i, i < n → IsImg w (lay i).1 (lay i).2 (D i).bytes (D i).size (D i).dur
  own : ∀ i, i < n → ∀ k, sfoot lay i k → k ≠ d ∧ rb ≠ some k
  apart : ∀ i j, i < n → j < n → i ≠ j → ∀ k, sfoot lay i k → ¬ sfoot lay j k
section
variable {w w' : World} {d n : Nat} {rb : Option Nat} {lay : Lay} {D : Nat → SlotD}
theorem IsDisk.chg {F : Nat → Prop} (h : IsDisk w d rb n lay D) (hc : Chg F w w') (hF : ∀ k, dfoot d rb n lay k → ¬ F k) : IsDisk w' d rb n lay D := by
  obtain ⟨⟨A, c, h1, h2, h3⟩, h4, h5, h6, h7⟩ := h
  exact ⟨⟨A, c, h1.chg hc (hF _ (.inl rfl)), own_chg h2 hc (fun k hk => hF k (.inr (.inl (h3.trans hk)))), h3⟩, h4, fun i hi => (h5 i hi).chg hc (fun k hk => hF k (.inr (.inr ⟨i, hi, hk⟩))), h6, h7⟩
theorem IsDisk.lt (h : IsDisk w d rb n lay D) : ∀ k, dfoot d rb n lay k → k < w.heap.size := by
  obtain ⟨⟨A, c, h1, h2, h3⟩, h4, h5, h6, h7⟩ := h
  intro k hk
  rcases hk with rfl | hk | ⟨i, hi, hk⟩
  · exact h1.lt
  · exact (h2.lt k (h3.symm.trans hk)).2
  · exact (h5 i hi).lt k hk
theorem IsDisk.below (h : IsDisk w d rb n lay D) (hb : Below w.heap.size w w') : IsDisk w' d rb n lay D := h.chg (F := fun _ => False) (Chg.of_below hb) (fun _ _ h => h)
/-- One slot has turned. -/
theorem IsDisk.upd (h : IsDisk w d rb n lay D) {i : Nat} (hi : i < n) {fb' : Option Nat} {x : SlotD} (hx : IsImg w' (lay i).1 fb' x.bytes x.size x.dur) (hc : Chg (sfoot lay i) w w') (hfb : ∀ k, fb' = some k → (lay i).2 = some k ∨ w.heap.size ≤ k) :
    IsDisk w' d rb n (updF lay i ((lay i).1, fb')) (updF D i x) ∧ ∀ k, dfoot d rb n (updF lay i ((lay i).1, fb')) k → dfoot d rb n lay k ∨ w.heap.size ≤ k := by
  have hlt := h.lt
  obtain ⟨⟨A, c, h1, h2, h3⟩, h4, h5, h6, h7⟩ := h
  have hp : ptrsTo (updF lay i ((lay i).1, fb')) n = ptrsTo lay n := ptrsTo_congr (fun j hj => by
    by_cases e : j = i
    · subst e; rw [updF_same]
    · rw [updF_other _ _ e])
  have hs : ∀ k, sfoot (updF lay i ((lay i).1, fb')) i k → sfoot lay i k ∨ w.heap.size ≤ k := by
    intro k hk
    unfold sfoot at hk
    rw [updF_same] at hk
    rcases hk with hk | hk
    · exact .inl (.inl hk)
    · rcases hfb k hk with e | e
      · exact .inl (.inr e)
      · exact .inr e
  have ho : ∀ j, j ≠ i → sfoot (updF lay i ((lay i).1, fb')) j = sfoot lay j := fun j e => by unfold sfoot; rw [updF_other _ _ e]
  refine ⟨⟨⟨A, c, h1.chg hc (fun e => (h6 i hi d e).1 rfl), ?_, h3⟩, h4, fun j hj => ?_, fun j hj k hk => ?_, fun j1 j2 hj1 hj2 hne k hk hk2 => ?_⟩, fun k hk => ?_⟩
  · rw [hp]
    exact own_chg h2 hc (fun k hk e => (h6 i hi k e).2 (h3.trans hk))
  · by_cases e : j = i
    · subst e; rw [updF_same, updF_same]; exact hx
    · rw [updF_other _ _ e, updF_other _ _ e]
      exact (h5 j hj).chg hc (fun k hk hk2 => h7 j i hj hi e k hk hk2)
  · by_cases e : j = i
    · subst e
      rcases hs k hk with e | e
      · exact h6 j hj k e
      · have hd := h1.lt
        refine ⟨by omega, fun e2 => ?_⟩
        have := hlt k (.inr (.inl e2))
        omega
    · rw [ho j e] at hk; exact h6 j hj k hk
  · by_cases e1 : j1 = i
    · subst e1
      have e2 : j2 ≠ j1 := fun e => hne e.symm
      rw [ho j2 e2] at hk2
      rcases hs k hk with e | e
      · exact h7 j1 j2 hj1 hj2 hne k e hk2
      · have := (h5 j2 hj2).lt k hk2; omega
    · rw [ho j1 e1] at hk
      by_cases e2 : j2 = i
      · subst e2
        rcases hs k hk2 with e | e
        · exact h7 j1 j2 hj1 hj2 hne k hk e
        · have := (h5 j1 hj1).lt k hk; omega
      · rw [ho j2 e2] at hk2
        exact h7 j1 j2 hj1 hj2 hne k hk hk2
  · rcases hk with hk | hk | ⟨j, hj, hk⟩
    · exact .inl (.inl hk)
    · exact .inl (.inr (.inl hk))
    · by_cases e : j = i
      · subst e
        rcases hs k hk with e | e
        · exact .inl (.inr (.inr ⟨j, hj, e⟩))
        · exact .inr e
      · rw [ho j e] at hk
        exact .inl (.inr (.inr ⟨j, hj, hk⟩))
/-- One slot more: its image is new; the row has grown; the disk's block has been stored into. -/
theorem IsDisk.push {w1 w2 : World} {g : Nat} {fb : Option Nat} {x : SlotD} {A' : Option Addr} {c' : Nat} (h : IsDisk w d rb n lay D) (hb : Below w.heap.size w w1) (hx : IsImg w1 g fb x.bytes x.size x.dur) (hf : ∀ k, foot g fb k → w.heap.size ≤ k)
    (ho : w2.ownsRow 0 118 1 (.slice A' (n + 1) c') (n + 1) (ptrsTo lay n ++ [.pointer (some ⟨g, 0, none⟩)])) (hg : w1.grownBy w2 rb) (hat : (Value.slice A' (n + 1) c').ownBlock = rb ∨ (Value.slice A' (n + 1) c').ownBlock = some w1.heap.size) :
    IsDisk (w2.setCell ⟨d, 0, none⟩ (.slice A' (n + 1) c')) d (Value.slice A' (n + 1) c').ownBlock (n + 1) (updF lay n (g, fb)) (updF D n x) ∧ Chg (dfoot d rb n lay) w (w2.setCell ⟨d, 0, none⟩ (.slice A' (n + 1) c')) ∧
      ∀ k, dfoot d (Value.slice A' (n + 1) c').ownBlock (n + 1) (updF lay n (g, fb)) k → dfoot d rb n lay k ∨ w.heap.size ≤ k := by
  have hlt := h.lt
  have h' := h.below hb
  have hsz := hb.size
  have hdn : ∀ k, (Value.slice A' (n + 1) c').ownBlock = some k → k ≠ d ∧ (rb = some k ∨ w1.heap.size ≤ k) := fun k hk => by
    rcases hat with e | e
    · rw [e] at hk
      exact ⟨fun e2 => h.ne (by rw [hk, e2]), .inl hk⟩
    · rw [e] at hk
      injection hk with hk
      have := hlt d (.inl rfl)
      exact ⟨by omega, .inr (by omega)⟩
  have hc1 : Chg (fun k => rb = some k) w1 w2 := (Chg.refl _ w1).grown hg (fun q hq => .inl hq)
  have hc2 : Chg (fun k => rb = some k ∨ k = d) w1 (w2.setCell ⟨d, 0, none⟩ (.slice A' (n + 1) c')) := (hc1.mono (fun k _ hk => .inl hk)).setCell (p := ⟨d, 0, none⟩) (.inl (.inr rfl)) _
  have hcA : Chg (dfoot d rb n lay) w (w2.setCell ⟨d, 0, none⟩ (.slice A' (n + 1) c')) := (Chg.of_below (F := dfoot d rb n lay) hb).trans hc2 (fun k _ hk => by
    rcases hk with hk | hk
    · exact .inr (.inl hk)
    · exact .inl hk)
  have hs : ∀ j, j < n → sfoot (updF lay n (g, fb)) j = sfoot lay j := fun j hj => by unfold sfoot; rw [updF_other _ _ (by omega)]
  have hsn : sfoot (updF lay n (g, fb)) n = foot g fb := by unfold sfoot; rw [updF_same]
  have hF : ∀ k, dfoot d (Value.slice A' (n + 1) c').ownBlock (n + 1) (updF lay n (g, fb)) k → dfoot d rb n lay k ∨ w.heap.size ≤ k := fun k hk => by
    rcases hk with hk | hk | ⟨j, hj, hk⟩
    · exact .inl (.inl hk)
    · rcases (hdn k hk).2 with e | e
      · exact .inl (.inr (.inl e))
      · exact .inr (by omega)
    · by_cases e : j = n
      · subst e
        rw [hsn] at hk
        exact .inr (hf k hk)
      · rw [hs j (by omega)] at hk
        exact .inl (.inr (.inr ⟨j, by omega, hk⟩))
  refine ⟨⟨⟨A', c', ?_, ?_, rfl⟩, fun e => (hdn d e).1 rfl, fun j hj => ?_, fun j hj k hk => ?_, fun j1 j2 hj1 hj2 hne k hk hk2 => ?_⟩, hcA, hF⟩
  · obtain ⟨A, c, k1, k2, k3⟩ := h'.row
    have k4 : Blk w2 d 132 #[.slice A n c] := k1.chg hc1 (fun e => h.ne e)
    exact k4.set_ 0 _
  · have e : ptrsTo (updF lay n (g, fb)) (n + 1) = ptrsTo lay n ++ [.pointer (some ⟨g, 0, none⟩)] := by
      rw [ptrsTo_succ, updF_same, ptrsTo_congr (fun j hj => by rw [updF_other _ _ (by omega)])]
    rw [e]
    exact own_chg ho ((Chg.refl (fun k => k = d) w2).setCell (p := ⟨d, 0, none⟩) (.inl rfl) _) (fun k hk e => (hdn k hk).1 e)
  · by_cases e : j = n
    · subst e
      rw [updF_same, updF_same]
      refine hx.chg hc2 (fun k hk hk2 => ?_)
      have h1 := hf k hk
      rcases hk2 with e | e
      · have := hlt k (.inr (.inl e)); omega
      · have := hlt d (.inl rfl); omega
    · rw [updF_other _ _ e, updF_other _ _ e]
      refine (h'.img j (by omega)).chg hc2 (fun k hk hk2 => ?_)
      rcases hk2 with e | e
      · exact (h.own j (by omega) k hk).2 e
      · exact (h.own j (by omega) k hk).1 e
  · by_cases e : j = n
    · subst e
      rw [hsn] at hk
      have h1 := hf k hk
      have h2 := hx.lt k hk
      refine ⟨by have := hlt d (.inl rfl); omega, fun e2 => ?_⟩
      rcases (hdn k e2).2 with e | e
      · have := hlt k (.inr (.inl e)); omega
      · omega
    · rw [hs j (by omega)] at hk
      refine ⟨(h.own j (by omega) k hk).1, fun e2 => ?_⟩
      have h2 := (h'.img j (by omega)).lt k hk
      rcases (hdn k e2).2 with e | e
      · exact (h.own j (by omega) k hk).2 e
      · omega
  · by_cases e1 : j1 = n
    · subst e1
      rw [hsn] at hk
      rw [hs j2 (by omega)] at hk2
      have h1 := hf k hk
      have h2 := (h.img j2 (by omega)).lt k hk2
      omega
    · rw [hs j1 (by omega)] at hk
      by_cases e2 : j2 = n
      · subst e2
        rw [hsn] at hk2
        have h1 := hf k hk2
        have h2 := (h.img j1 (by omega)).lt k hk
        omega
      · rw [hs j2 (by omega)] at hk2
        exact h.apart j1 j2 (by omega) (by omega) hne k hk hk2
end
/-- A disk as an object among others. -/
def diskOb (d : Nat) (rb : Option Nat) (n : Nat) (lay : Lay) (D : Nat → SlotD) : Ob where
  P w := IsDisk w d rb n lay D
  F := dfoot d rb n lay
  keep hc hF h := h.chg hc hF
  lt h k hk := h.lt k hk
end Go.Proofs.YtnopljanpjmbgaaGreat
namespace Go.Proofs.YtnopljanpjmbgaaGreat
open Go.RowKit
set_option linter.unusedVariables false
/-- A disk that is nil, or was not made by New. -/
def NoDisk (w : World) (p : Option Addr) : Prop := p = none ∨ ∃ g, p = some ⟨g, 0, none⟩ ∧ w.cell? ⟨g, 0, none⟩ = some (.slice none 0 0)
theorem NoDisk.below {w w' : World} {p : Option Addr} (h : NoDisk w p) (hb : Below w.heap.size w w') : NoDisk w' p := by
  rcases h with rfl | ⟨g, rfl, hc⟩
  · exact .inl rfl
  · exact .inr ⟨g, rfl, (hb.cell (p := ⟨g, 0, none⟩) (block_lt_of_cell hc)).trans hc⟩
theorem ret_eq {v : Value} {r : Int} (h : v = .int .i64 r) : Ending.returned v = .returned (.int .i64 r) := by rw [h]
section
variable {w : World} {d n : Nat} {rb : Option Nat} {lay : Lay} {D : Nat → SlotD} {p : Option Addr}
theorem IsDisk.cells (h : IsDisk w d rb n lay D) : ∃ A c, w.cell? ⟨d, 0, none⟩ = some (.slice A n c) ∧ n ≤ c ∧ c ≤ maxLen ∧ ∀ i, i < n → ∃ ad, A = some ad ∧ w.cell? (ad.add i) = some (.pointer (some ⟨(lay i).1, 0, none⟩)) := by
  obtain ⟨A, c, h1, h2, h3⟩ := h.row
  obtain ⟨A', c', e, k1, k2, kr⟩ := own_slice h2
  injection e with e1 e2 e3
  subst e1 e3
  refine ⟨A, c, h1.cell 0, k1, k2, fun i hi => ?_⟩
  obtain ⟨ad, u, rfl, _, hx, hc⟩ := kr.at_ hi
  rw [ptrsTo_at lay hi] at hx
  injection hx with hx
  subst hx
  exact ⟨ad, rfl, hc⟩
set_option maxHeartbeats 400000 in
theorem valid_disk (h : IsDisk w d rb n lay D) (hn : 0 < n) :
    Calls Tryz.prog 129 #[.pointer (some ⟨d, 0, none⟩)] w fun e w' => e = .returned (.bool true) ∧ w = w' := by
  obtain ⟨A, c, q0, _, hm, _⟩ := h.cells
  unfold maxLen at hm
  clear h
  go_enter Tryz.func129, Tryz.ntmps129
  go_wp2_with fail
  go_ret
  exact ⟨rfl, rfl⟩
set_option maxHeartbeats 400000 in
theorem valid_nodisk (h : NoDisk w p) :
    Calls Tryz.prog 129 #[.pointer p] w fun e w' => e = .returned (.bool false) ∧ w = w' := by
  rcases h with rfl | ⟨g, rfl, hc⟩
  · go_enter Tryz.func129, Tryz.ntmps129
    go_wp2_with fail
    go_ret
    exact ⟨rfl, rfl⟩
  · go_enter Tryz.func129, Tryz.ntmps129
    go_wp2_with fail
    go_ret
    exact ⟨rfl, rfl⟩
set_option maxHeartbeats 400000 in
theorem slots_disk (h : IsDisk w d rb n lay D) (hn : 0 < n) :
    Calls Tryz.prog 154 #[.pointer (some ⟨d, 0, none⟩)] w fun e w' => e = .returned (.int .i64 (n : Int)) ∧ w = w' := by
  obtain ⟨A, c, q0, _, hm, _⟩ := h.cells
  have HV := Lib.hid (valid_disk h hn)
  unfold maxLen at hm
  clear h
  go_enter Tryz.func154, Tryz.ntmps154
  go_wp2_with fail
  refine HV.out.mono ?_
  rintro e w' ⟨rfl, rfl⟩
  go_wp2_with fail
  go_ret
  exact ⟨rfl, rfl⟩
set_option maxHeartbeats 400000 in
theorem slots_nodisk (h : NoDisk w p) :
    Calls Tryz.prog 154 #[.pointer p] w fun e w' => e = .returned (.int .i64 0) ∧ w = w' := by
  have HV := Lib.hid (valid_nodisk h)
  clear h
  go_enter Tryz.func154, Tryz.ntmps154
  go_wp2_with fail
  refine HV.out.mono ?_
  rintro e w' ⟨rfl, rfl⟩
  go_wp2_with fail
  go_ret
  exact ⟨rfl, rfl⟩
set_option maxHeartbeats 400000 in
theorem with_nodisk (h : NoDisk w p) (i : Int) (f : Value) :
    Calls Tryz.prog 87 #[.pointer p, .int .i64 i, f] w fun e w' => e = .returned (.int .i64 1) ∧ w = w' := by
  have HV := Lib.hid (valid_nodisk h)
  clear h
  go_enter Tryz.func87, Tryz.ntmps87
  go_wp2_with fail
  refine HV.out.mono ?_
  rintro e w' ⟨rfl, rfl⟩
  go_wp2_with fail
  go_ret
  exact ⟨rfl, rfl⟩
set_option maxHeartbeats 400000 in
theorem with_range (h : IsDisk w d rb n lay D) (hn : 0 < n) (i : Int) (hi : i < 0 ∨ (n : Int) ≤ i) (f : Value) :
    Calls Tryz.prog 87 #[.pointer (some ⟨d, 0, none⟩), .int .i64 i, f] w fun e w' => e = .returned (.int .i64 3) ∧ w = w' := by
  obtain ⟨A, c, q0, _, hm, _⟩ := h.cells
  have HV := Lib.hid (valid_disk h hn)
  unfold maxLen at hm
  clear h
  by_cases h1 : i < 0
  · clear hi
    go_enter Tryz.func87, Tryz.ntmps87
    go_wp2_with fail
    refine HV.out.mono ?_
    rintro e w' ⟨rfl, rfl⟩
    go_wp2_with fail
    go_ret
    exact ⟨rfl, rfl⟩
  · have h2 : (n : Int) ≤ i := by omega
    clear hi
    go_enter Tryz.func87, Tryz.ntmps87
    go_wp2_with fail
    refine HV.out.mono ?_
    rintro e w' ⟨rfl, rfl⟩
    go_wp2_with fail
    go_ret
    exact ⟨rfl, rfl⟩
set_option maxHeartbeats 400000 in
theorem with_Append (h : IsDisk w d rb n lay D) (hn : 0 < n) (i : Nat) (hi : i < n) (cap0 : Value) (Q : Int → World → Prop) (hc : Calls Tryz.prog 88 #[.pointer (some ⟨(lay i).1, 0, none⟩), cap0] w fun e w' => ∃ r, e = .returned (.int .i64 r) ∧ Q r w') :
    Calls Tryz.prog 87 #[.pointer (some ⟨d, 0, none⟩), .int .i64 (i : Int), .func (.func 88) #[] #[cap0]] w fun e w' => ∃ r, e = .returned (.int .i64 r) ∧ Hid (Q r w') := by
  obtain ⟨A, c, q0, _, hm, hp⟩ := h.cells
  obtain ⟨ad, rfl, q1⟩ := hp i hi
  have HV := Lib.hid (valid_disk h hn)
  have HC := Lib.hid hc
  unfold maxLen at hm
  clear h hp hc
  go_enter Tryz.func87, Tryz.ntmps87
  go_wp2_with fail
  refine HV.out.mono ?_
  rintro e w' ⟨rfl, rfl⟩
  go_wp2_with fail
  refine HC.out.mono ?_
  rintro e w' ⟨r, rfl, hq⟩
  have HQ := Lib.hid hq
  clear hq
  go_wp2_with fail
  go_ret
  exact ⟨r, rfl, HQ⟩
set_option maxHeartbeats 400000 in
theorem with_Sync (h : IsDisk w d rb n lay D) (hn : 0 < n) (i : Nat) (hi : i < n)  (Q : Int → World → Prop) (hc : Calls Tryz.prog 139 #[.pointer (some ⟨(lay i).1, 0, none⟩)] w fun e w' => ∃ r, e = .returned (.int .i64 r) ∧ Q r w') :
    Calls Tryz.prog 87 #[.pointer (some ⟨d, 0, none⟩), .int .i64 (i : Int), .func (.func 139) #[] #[]] w fun e w' => ∃ r, e = .returned (.int .i64 r) ∧ Hid (Q r w') := by
  obtain ⟨A, c, q0, _, hm, hp⟩ := h.cells
  obtain ⟨ad, rfl, q1⟩ := hp i hi
  have HV := Lib.hid (valid_disk h hn)
  have HC := Lib.hid hc
  unfold maxLen at hm
  clear h hp hc
  go_enter Tryz.func87, Tryz.ntmps87
  go_wp2_with fail
  refine HV.out.mono ?_
  rintro e w' ⟨rfl, rfl⟩
  go_wp2_with fail
  refine HC.out.mono ?_
  rintro e w' ⟨r, rfl, hq⟩
  have HQ := Lib.hid hq
  clear hq
  go_wp2_with fail
  go_ret
  exact ⟨r, rfl, HQ⟩
set_option maxHeartbeats 400000 in
theorem with_Erase (h : IsDisk w d rb n lay D) (hn : 0 < n) (i : Nat) (hi : i < n)  (Q : Int → World → Prop) (hc : Calls Tryz.prog 124 #[.pointer (some ⟨(lay i).1, 0, none⟩)] w fun e w' => ∃ r, e = .returned (.int .i64 r) ∧ Q r w') :
    Calls Tryz.prog 87 #[.pointer (some ⟨d, 0, none⟩), .int .i64 (i : Int), .func (.func 124) #[] #[]] w fun e w' => ∃ r, e = .returned (.int .i64 r) ∧ Hid (Q r w') := by
  obtain ⟨A, c, q0, _, hm, hp⟩ := h.cells
  obtain ⟨ad, rfl, q1⟩ := hp i hi
  have HV := Lib.hid (valid_disk h hn)
  have HC := Lib.hid hc
  unfold maxLen at hm
  clear h hp hc
  go_enter Tryz.func87, Tryz.ntmps87
  go_wp2_with fail
  refine HV.out.mono ?_
  rintro e w' ⟨rfl, rfl⟩
  go_wp2_with fail
  refine HC.out.mono ?_
  rintro e w' ⟨r, rfl, hq⟩
  have HQ := Lib.hid hq
  clear hq
  go_wp2_with fail
  go_ret
  exact ⟨r, rfl, HQ⟩
set_option maxHeartbeats 400000 in
theorem with_Read (h : IsDisk w d rb n lay D) (hn : 0 < n) (i : Nat) (hi : i < n) (cap0 : Value) (cap1 : Value) (cap2 : Value) (Q : Int → World → Prop) (hc : Calls Tryz.prog 92 #[.pointer (some ⟨(lay i).1, 0, none⟩), cap0, cap1, cap2] w fun e w' => ∃ r, e = .returned (.int .i64 r) ∧ Q r w') :
    Calls Tryz.prog 87 #[.pointer (some ⟨d, 0, none⟩), .int .i64 (i : Int), .func (.func 92) #[] #[cap0, cap1, cap2]] w fun e w' => ∃ r, e = .returned (.int .i64 r) ∧ Hid (Q r w') := by
  obtain ⟨A, c, q0, _, hm, hp⟩ := h.cells
  obtain ⟨ad, rfl, q1⟩ := hp i hi
  have HV := Lib.hid (valid_disk h hn)
  have HC := Lib.hid hc
  unfold maxLen at hm
  clear h hp hc
  go_enter Tryz.func87, Tryz.ntmps87
  go_wp2_with fail
  refine HV.out.mono ?_
  rintro e w' ⟨rfl, rfl⟩
  go_wp2_with fail
  refine HC.out.mono ?_
  rintro e w' ⟨r, rfl, hq⟩
  have HQ := Lib.hid hq
  clear hq
  go_wp2_with fail
  go_ret
  exact ⟨r, rfl, HQ⟩
set_option maxHeartbeats 400000 in
theorem with_ask (h : IsDisk w d rb n lay D) (hn : 0 < n) (i : Nat) (hi : i < n) (cap0 : Value) (cap1 : Value) (Q : Int → World → Prop) (hc : Calls Tryz.prog 127 #[.pointer (some ⟨(lay i).1, 0, none⟩), cap0, cap1] w fun e w' => ∃ r, e = .returned (.int .i64 r) ∧ Q r w') :
    Calls Tryz.prog 87 #[.pointer (some ⟨d, 0, none⟩), .int .i64 (i : Int), .func (.func 127) #[] #[cap0, cap1]] w fun e w' => ∃ r, e = .returned (.int .i64 r) ∧ Hid (Q r w') := by
  obtain ⟨A, c, q0, _, hm, hp⟩ := h.cells
  obtain ⟨ad, rfl, q1⟩ := hp i hi
  have HV := Lib.hid (valid_disk h hn)
  have HC := Lib.hid hc
  unfold maxLen at hm
  clear h hp hc
  go_enter Tryz.func87, Tryz.ntmps87
  go_wp2_with fail
  refine HV.out.mono ?_
  rintro e w' ⟨rfl, rfl⟩
  go_wp2_with fail
  refine HC.out.mono ?_
  rintro e w' ⟨r, rfl, hq⟩
  have HQ := Lib.hid hq
  clear hq
  go_wp2_with fail
  go_ret
  exact ⟨r, rfl, HQ⟩
end
end Go.Proofs.YtnopljanpjmbgaaGreat
namespace Go.Proofs.YtnopljanpjmbgaaGreat
open Go.RowKit
set_option linter.unusedVariables false
/-- A disk has turned: what it holds now; only its own blocks, and new ones. -/
def DiskTo (w w' : World) (d : Nat) (rb : Option Nat) (n : Nat) (lay : Lay) (D' : Nat → SlotD) : Prop :=
  ∃ lay', IsDisk w' d rb n lay' D' ∧ Chg (dfoot d rb n lay) w w' ∧ ∀ k, dfoot d rb n lay' k → dfoot d rb n lay k ∨ w.heap.size ≤ k
def inRange (n : Nat) (i : Int) : Prop := 0 ≤ i ∧ i < (n : Int)
instance (n : Nat) (i : Int) : Decidable (inRange n i) := by unfold inRange; infer_instance
def appE (D : Nat → SlotD) (i : Nat) (b : List (BitVec 8)) : Int := if (D i).bytes.length + b.length ≤ (D i).size then 0 else 4
def appD (D : Nat → SlotD) (i : Nat) (b : List (BitVec 8)) : Nat → SlotD := if (D i).bytes.length + b.length ≤ (D i).size then updF D i ⟨(D i).size, (D i).bytes ++ b, (D i).dur⟩ else D
def syncD (D : Nat → SlotD) (i : Nat) : Nat → SlotD := updF D i ⟨(D i).size, (D i).bytes, (D i).bytes.length⟩
def eraseD (D : Nat → SlotD) (i : Nat) : Nat → SlotD := updF D i ⟨(D i).size, [], 0⟩
section
variable {w w' w1 : World} {d n : Nat} {rb : Option Nat} {lay : Lay} {D : Nat → SlotD} {p : Option Addr} {g : Nat} {fb : Option Nat} {l : List (BitVec 8)} {size dur : Nat}
theorem DiskTo.refl (h : IsDisk w d rb n lay D) (hb : Below w.heap.size w w') : DiskTo w w' d rb n lay D := ⟨lay, h.below hb, Chg.of_below hb, fun _ h => .inl h⟩
theorem DiskTo.before (h : DiskTo w1 w' d rb n lay D) (hb : Below w.heap.size w w1) : DiskTo w w' d rb n lay D := by
  obtain ⟨lay', h1, h2, h3⟩ := h
  have := hb.size
  exact ⟨lay', h1, (Chg.of_below (F := dfoot d rb n lay) hb).trans h2 (fun _ _ h => h), fun k hk => (h3 k hk).imp id (fun e => by omega)⟩
theorem DiskTo.of_img (h : IsDisk w d rb n lay D) {i : Nat} (hi : i < n) {fb' : Option Nat} {x : SlotD} (hx : IsImg w' (lay i).1 fb' x.bytes x.size x.dur) (hc : Chg (sfoot lay i) w w') (hfb : ∀ k, fb' = some k → (lay i).2 = some k ∨ w.heap.size ≤ k) :
    DiskTo w w' d rb n lay (updF D i x) := by
  obtain ⟨h1, h2⟩ := h.upd hi hx hc hfb
  exact ⟨_, h1, hc.mono (fun k _ hk => .inr (.inr ⟨i, hi, hk⟩)), h2⟩
theorem updF_id (D : Nat → SlotD) (i : Nat) : updF D i (D i) = D := by
  funext j
  unfold updF
  by_cases h : j = i
  · rw [if_pos h, h]
  · rw [if_neg h]
def AppQ (w : World) (g : Nat) (fb : Option Nat) (l : List (BitVec 8)) (size dur : Nat) (b : List (BitVec 8)) (r : Int) (w' : World) : Prop :=
  (l.length + b.length ≤ size ∧ r = 0 ∧ ∃ fb', IsImg w' g fb' (l ++ b) size dur ∧ Chg (foot g fb) w w' ∧ ∀ k, fb' = some k → fb = some k ∨ w.heap.size ≤ k) ∨ (size < l.length + b.length ∧ r = 4 ∧ Below w.heap.size w w')
set_option maxRecDepth 100000 in
set_option maxHeartbeats 400000 in
theorem cl_append (hi : IsImg w g fb l size dur) (bb : Nat) (A : Option Addr) (m c : Nat) (b : List (BitVec 8)) (hc : w.cell? ⟨bb, 0, none⟩ = some (.slice A m c)) (hv : Holds w (.slice A m c) b) :
    Calls Tryz.prog 88 #[.pointer (some ⟨g, 0, none⟩), .pointer (some ⟨bb, 0, none⟩)] w fun e w' => ∃ r, e = .returned (.int .i64 r) ∧ AppQ w g fb l size dur b r w' := by
  obtain ⟨A', m', c', e, hm, hmc, hcm, hr⟩ := hv
  injection e with e1 e2 e3
  subst e1 e2 e3
  by_cases hf : l.length + b.length ≤ size
  · have HC := Lib.hid (append_img hi A m c _ b hr (by omega))
    have HF := Lib.hid hf
    clear hi hr hm hmc hcm hf
    go_enter Tryz.func88, Tryz.ntmps88
    go_wp2_with fail
    refine HC.out.mono ?_
    rintro e w' ⟨rfl, hq⟩
    have HQ := Lib.hid hq
    clear hq
    go_wp2_with fail
    go_ret
    obtain ⟨fb', h1, h2, h3⟩ := HQ.out
    exact ⟨0, rfl, .inl ⟨HF.out, rfl, fb', h1, h2, fresh_of h3⟩⟩
  · have HC := Lib.hid (append_img_full hi A m c (by omega) (by omega))
    have HF := Lib.hid hf
    clear hi hr hm hmc hcm hf
    go_enter Tryz.func88, Tryz.ntmps88
    go_wp2_with fail
    refine HC.out.mono ?_
    rintro e w' ⟨rfl, hq⟩
    have HQ := Lib.hid hq
    clear hq
    go_wp2_with fail
    go_ret
    obtain ⟨q, rfl⟩ := HQ.out
    exact ⟨4, rfl, .inr ⟨by have := HF.out; omega, rfl, ⟨rfl, rfl, rfl, Nat.le_refl _, fun _ _ => rfl⟩⟩⟩
set_option maxRecDepth 100000 in
set_option maxHeartbeats 1000000 in
theorem disk_append (h : IsDisk w d rb n lay D) (hn : 0 < n) (i : Nat) (hi : i < n) (v : Value) (b : List (BitVec 8)) (hv : Holds w v b) :
    Calls Tryz.prog 37 #[.pointer (some ⟨d, 0, none⟩), .int .i64 (i : Int), v] w fun e w' => e = .returned (.int .i64 (appE D i b)) ∧ DiskTo w w' d rb n lay (appD D i b) := by
  obtain ⟨A, m, c, rfl, hm, hmc, hcm, hr⟩ := hv
  have HB : Hid (Below w.heap.size w (w.alloc (.cells #[.slice A m c] 23))) := (Below.refl _ _).alloc (Nat.le_refl _) _
  have HD := Lib.hid (h.below HB.out)
  have hv1 : Holds (w.alloc (.cells #[.slice A m c] 23)) (.slice A m c) b := Holds.below ⟨A, m, c, rfl, hm, hmc, hcm, hr⟩ HB.out
  have hc1 : (w.alloc (.cells #[.slice A m c] 23)).cell? ⟨w.heap.size, 0, none⟩ = some (.slice A m c) := (Blk.new w _ _).cell 0
  have HC := Lib.hid (with_Append HD.out hn i hi (.pointer (some ⟨w.heap.size, 0, none⟩)) _ (cl_append (HD.out.img i hi) w.heap.size A m c b hc1 hv1))
  clear h hm hmc hcm hr hv1 hc1
  go_enter Tryz.func37, Tryz.ntmps37
  go_wp2_with fail
  refine HC.out.mono ?_
  rintro e w' ⟨r, rfl, hq⟩
  go_wp2_with fail
  go_ret
  have hr2 : r = appE D i b ∧ DiskTo w w' d rb n lay (appD D i b) := by
    unfold appE appD
    rcases hq.out with ⟨h1, h2, fb', h3, h4, h5⟩ | ⟨h1, h2, h3⟩
    · rw [if_pos h1, if_pos h1]
      exact ⟨h2, (DiskTo.of_img (x := ⟨(D i).size, (D i).bytes ++ b, (D i).dur⟩) HD.out hi h3 h4 h5).before HB.out⟩
    · rw [if_neg (by omega), if_neg (by omega)]
      exact ⟨h2, (DiskTo.refl HD.out h3).before HB.out⟩
  exact ⟨ret_eq (by rw [← hr2.1]; rfl), hr2.2⟩
set_option maxRecDepth 100000 in
set_option maxHeartbeats 400000 in
theorem cl_Sync (hi : IsImg w g fb l size dur) :
    Calls Tryz.prog 139 #[.pointer (some ⟨g, 0, none⟩)] w fun e w' => ∃ r, e = .returned (.int .i64 r) ∧ (r = 0 ∧ IsImg w' g fb l size l.length ∧ Chg (foot g fb) w w') := by
  have HC := Lib.hid (sync_img hi)
  clear hi
  go_enter Tryz.func139, Tryz.ntmps139
  go_wp2_with fail
  refine HC.out.mono ?_
  rintro e w' ⟨rfl, hq⟩
  have HQ := Lib.hid hq
  clear hq
  go_wp2_with fail
  go_ret
  exact ⟨0, rfl, rfl, HQ.out⟩
set_option maxRecDepth 100000 in
set_option maxHeartbeats 400000 in
theorem disk_sync (h : IsDisk w d rb n lay D) (hn : 0 < n) (i : Nat) (hi : i < n) :
    Calls Tryz.prog 109 #[.pointer (some ⟨d, 0, none⟩), .int .i64 (i : Int)] w fun e w' => e = .returned (.int .i64 0) ∧ DiskTo w w' d rb n lay (syncD D i) := by
  have HD := Lib.hid h
  have HC := Lib.hid (with_Sync h hn i hi _ (cl_Sync (h.img i hi)))
  clear h
  go_enter Tryz.func109, Tryz.ntmps109
  go_wp2_with fail
  refine HC.out.mono ?_
  rintro e w' ⟨r, rfl, hq⟩
  go_wp2_with fail
  go_ret
  obtain ⟨h1, h2, h3⟩ := hq.out
  exact ⟨ret_eq (by rw [← h1]; rfl), DiskTo.of_img (x := ⟨(D i).size, (D i).bytes, (D i).bytes.length⟩) HD.out hi h2 h3 (fun k hk => .inl hk)⟩
set_option maxRecDepth 100000 in
set_option maxHeartbeats 400000 in
theorem cl_Erase (hi : IsImg w g fb l size dur) :
    Calls Tryz.prog 124 #[.pointer (some ⟨g, 0, none⟩)] w fun e w' => ∃ r, e = .returned (.int .i64 r) ∧ (r = 0 ∧ IsImg w' g none [] size 0 ∧ Chg (foot g fb) w w') := by
  have HC := Lib.hid (erase_img hi)
  clear hi
  go_enter Tryz.func124, Tryz.ntmps124
  go_wp2_with fail
  refine HC.out.mono ?_
  rintro e w' ⟨rfl, hq⟩
  have HQ := Lib.hid hq
  clear hq
  go_wp2_with fail
  go_ret
  exact ⟨0, rfl, rfl, HQ.out⟩
set_option maxRecDepth 100000 in
set_option maxHeartbeats 400000 in
theorem disk_erase (h : IsDisk w d rb n lay D) (hn : 0 < n) (i : Nat) (hi : i < n) :
    Calls Tryz.prog 77 #[.pointer (some ⟨d, 0, none⟩), .int .i64 (i : Int)] w fun e w' => e = .returned (.int .i64 0) ∧ DiskTo w w' d rb n lay (eraseD D i) := by
  have HD := Lib.hid h
  have HC := Lib.hid (with_Erase h hn i hi _ (cl_Erase (h.img i hi)))
  clear h
  go_enter Tryz.func77, Tryz.ntmps77
  go_wp2_with fail
  refine HC.out.mono ?_
  rintro e w' ⟨r, rfl, hq⟩
  go_wp2_with fail
  go_ret
  obtain ⟨h1, h2, h3⟩ := hq.out
  exact ⟨ret_eq (by rw [← h1]; rfl), DiskTo.of_img (x := ⟨(D i).size, [], 0⟩) HD.out hi h2 h3 (fun k hk => by cases hk)⟩
set_option maxRecDepth 100000 in
set_option maxHeartbeats 400000 in
theorem disk_append_range (h : IsDisk w d rb n lay D) (hn : 0 < n) (i : Int) (hi : i < 0 ∨ (n : Int) ≤ i) (A : Option Addr) (m c : Nat) :
    Calls Tryz.prog 37 #[.pointer (some ⟨d, 0, none⟩), .int .i64 i, .slice A m c] w fun e w' => e = .returned (.int .i64 3) ∧ Below w.heap.size w w' := by
  have HB : Hid (Below w.heap.size w (w.alloc (.cells #[.slice A m c] 23))) := (Below.refl _ _).alloc (Nat.le_refl _) _
  have HH := Lib.hid (h.below HB.out)
  have HI := Lib.hid hi
  clear h hi
  go_enter Tryz.func37, Tryz.ntmps37
  go_wp2_with fail
  refine (with_range HH.out hn i HI.out _).mono ?_
  rintro e w' ⟨rfl, rfl⟩
  go_wp2_with fail
  go_ret
  exact ⟨rfl, HB.out⟩
set_option maxRecDepth 100000 in
set_option maxHeartbeats 400000 in
theorem disk_append_no (h : NoDisk w p) (i : Int) (A : Option Addr) (m c : Nat) :
    Calls Tryz.prog 37 #[.pointer p, .int .i64 i, .slice A m c] w fun e w' => e = .returned (.int .i64 1) ∧ Below w.heap.size w w' := by
  have HB : Hid (Below w.heap.size w (w.alloc (.cells #[.slice A m c] 23))) := (Below.refl _ _).alloc (Nat.le_refl _) _
  have HH := Lib.hid (h.below HB.out)
  clear h
  go_enter Tryz.func37, Tryz.ntmps37
  go_wp2_with fail
  refine (with_nodisk HH.out i _).mono ?_
  rintro e w' ⟨rfl, rfl⟩
  go_wp2_with fail
  go_ret
  exact ⟨rfl, HB.out⟩
set_option maxRecDepth 100000 in
set_option maxHeartbeats 400000 in
theorem disk_sync_range (h : IsDisk w d rb n lay D) (hn : 0 < n) (i : Int) (hi : i < 0 ∨ (n : Int) ≤ i) :
    Calls Tryz.prog 109 #[.pointer (some ⟨d, 0, none⟩), .int .i64 i] w fun e w' => e = .returned (.int .i64 3) ∧ w = w' := by
  have HH := Lib.hid h
  have HI := Lib.hid hi
  clear h hi
  go_enter Tryz.func109, Tryz.ntmps109
  go_wp2_with fail
  refine (with_range HH.out hn i HI.out _).mono ?_
  rintro e w' ⟨rfl, rfl⟩
  go_wp2_with fail
  go_ret
  exact ⟨rfl, rfl⟩
set_option maxRecDepth 100000 in
set_option maxHeartbeats 400000 in
theorem disk_sync_no (h : NoDisk w p) (i : Int) :
    Calls Tryz.prog 109 #[.pointer p, .int .i64 i] w fun e w' => e = .returned (.int .i64 1) ∧ w = w' := by
  have HH := Lib.hid h
  clear h
  go_enter Tryz.func109, Tryz.ntmps109
  go_wp2_with fail
  refine (with_nodisk HH.out i _).mono ?_
  rintro e w' ⟨rfl, rfl⟩
  go_wp2_with fail
  go_ret
  exact ⟨rfl, rfl⟩
set_option maxRecDepth 100000 in
set_option maxHeartbeats 400000 in
theorem disk_erase_range (h : IsDisk w d rb n lay D) (hn : 0 < n) (i : Int) (hi : i < 0 ∨ (n : Int) ≤ i) :
    Calls Tryz.prog 77 #[.pointer (some ⟨d, 0, none⟩), .int .i64 i] w fun e w' => e = .returned (.int .i64 3) ∧ w = w' := by
  have HH := Lib.hid h
  have HI := Lib.hid hi
  clear h hi
  go_enter Tryz.func77, Tryz.ntmps77
  go_wp2_with fail
  refine (with_range HH.out hn i HI.out _).mono ?_
  rintro e w' ⟨rfl, rfl⟩
  go_wp2_with fail
  go_ret
  exact ⟨rfl, rfl⟩
set_option maxRecDepth 100000 in
set_option maxHeartbeats 400000 in
theorem disk_erase_no (h : NoDisk w p) (i : Int) :
    Calls Tryz.prog 77 #[.pointer p, .int .i64 i] w fun e w' => e = .returned (.int .i64 1) ∧ w = w' := by
  have HH := Lib.hid h
  clear h
  go_enter Tryz.func77, Tryz.ntmps77
  go_wp2_with fail
  refine (with_nodisk HH.out i _).mono ?_
  rintro e w' ⟨rfl, rfl⟩
  go_wp2_with fail
  go_ret
  exact ⟨rfl, rfl⟩
end
end Go.Proofs.YtnopljanpjmbgaaGreat
namespace Go.Proofs.YtnopljanpjmbgaaGreat
open Go.RowKit
set_option linter.unusedVariables false
section
variable {w w' w1 : World} {d n : Nat} {rb : Option Nat} {lay : Lay} {D : Nat → SlotD} {p : Option Addr} {g : Nat} {fb : Option Nat} {l : List (BitVec 8)} {size dur : Nat}
set_option maxRecDepth 100000 in
set_option maxHeartbeats 400000 in
theorem cl_Len (hi : IsImg w g fb l size dur) (fbx nbx : Nat) (hne : fbx ≠ nbx) (hc : w.cell? ⟨fbx, 0, none⟩ = some (.func (.func 133) #[] #[])) (hn : Blk w nbx 3 #[.int .i64 0]) :
    Calls Tryz.prog 127 #[.pointer (some ⟨g, 0, none⟩), .pointer (some ⟨fbx, 0, none⟩), .pointer (some ⟨nbx, 0, none⟩)] w fun e w' => ∃ r, e = .returned (.int .i64 r) ∧ (r = 0 ∧ Blk w' nbx 3 #[.int .i64 (l.length : Int)] ∧ Chg (fun k => k = nbx) w w') := by
  have HC := Lib.hid (len_img hi)
  have HN := Lib.hid hn
  have c1 : w.cell? ⟨nbx, 0, none⟩ = some (.int .i64 0) := hn.cell 0
  have f1 := hn.frozen 0
  clear hi hn
  go_enter Tryz.func127, Tryz.ntmps127
  go_wp2_with fail
  refine HC.out.mono ?_
  rintro e w' ⟨rfl, rfl⟩
  go_wp2_with fail
  go_ret
  exact ⟨0, rfl, rfl, (HN.out).set_ 0 _, Chg.setCell (Chg.refl (fun k => k = nbx) w) (p := ⟨nbx, 0, none⟩) (.inl rfl) _⟩
set_option maxRecDepth 100000 in
set_option maxHeartbeats 1000000 in
theorem ask_Len (h : IsDisk w d rb n lay D) (hn : 0 < n) (i : Nat) (hi : i < n) :
    Calls Tryz.prog 83 #[.pointer (some ⟨d, 0, none⟩), .int .i64 (i : Int), .func (.func 133) #[] #[]] w fun e w' => e = .returned (.tuple #[.int .i64 ((D i).bytes.length : Int), .int .i64 0]) ∧ Below w.heap.size w w' := by
  obtain ⟨wa, hwa⟩ : ∃ wa : World, wa = (w.alloc (.cells #[.func (.func 133) #[] #[]] 117)).alloc (.cells #[.int .i64 0] 3) := ⟨_, rfl⟩
  have HB : Hid (Below w.heap.size w wa) := by rw [hwa]; exact ((Below.refl _ _).alloc (Nat.le_refl _) _).alloc (by simp) _
  have hb1 : Blk wa w.heap.size 117 #[.func (.func 133) #[] #[]] := by rw [hwa]; exact (Blk.new w _ _).alloc _
  have hb2 : Blk wa (w.heap.size + 1) 3 #[.int .i64 0] := by
    rw [hwa]
    have := Blk.new (w.alloc (.cells #[.func (.func 133) #[] #[]] 117)) 3 #[.int .i64 0]
    rw [World.size_alloc] at this
    exact this
  have HD := Lib.hid (h.below HB.out)
  have HC := Lib.hid (with_ask HD.out hn i hi (.pointer (some ⟨w.heap.size, 0, none⟩)) (.pointer (some ⟨w.heap.size + 1, 0, none⟩)) _ (cl_Len (HD.out.img i hi) w.heap.size (w.heap.size + 1) (by omega) (hb1.cell 0) hb2))
  have HWA := Lib.hid hwa
  clear h hb1 hb2 hwa
  go_enter Tryz.func83, Tryz.ntmps83
  go_wp2_with fail
  rw [← HWA.out]
  refine HC.out.mono ?_
  rintro e w' ⟨r, rfl, hq⟩
  have c1 : w'.cell? ⟨w.heap.size + 1, 0, none⟩ = some (.int .i64 ((D i).bytes.length : Int)) := hq.out.2.1.cell 0
  have hr0 : r = 0 := hq.out.1
  have HBW : Hid (Below w.heap.size w w') := HB.out.trans (hq.out.2.2.below (by have := HB.out.size; exact this) (fun k hk => by omega))
  subst hr0
  clear hq
  go_wp2_with fail
  go_ret2
  exact ⟨rfl, HBW.out⟩
set_option maxRecDepth 100000 in
set_option maxHeartbeats 400000 in
theorem disk_len (h : IsDisk w d rb n lay D) (hn : 0 < n) (i : Nat) (hi : i < n) :
    Calls Tryz.prog 94 #[.pointer (some ⟨d, 0, none⟩), .int .i64 (i : Int)] w fun e w' => e = .returned (.tuple #[.int .i64 ((D i).bytes.length : Int), .int .i64 0]) ∧ Below w.heap.size w w' := by
  have HC := Lib.hid (ask_Len h hn i hi)
  clear h
  go_enter Tryz.func94, Tryz.ntmps94
  go_wp2_with fail
  refine HC.out.mono ?_
  rintro e w' ⟨rfl, hb⟩
  have HB := Lib.hid hb
  clear hb
  go_wp2_with fail
  go_ret2
  exact ⟨rfl, HB.out⟩
set_option maxRecDepth 100000 in
set_option maxHeartbeats 400000 in
theorem cl_Durable (hi : IsImg w g fb l size dur) (fbx nbx : Nat) (hne : fbx ≠ nbx) (hc : w.cell? ⟨fbx, 0, none⟩ = some (.func (.func 95) #[] #[])) (hn : Blk w nbx 3 #[.int .i64 0]) :
    Calls Tryz.prog 127 #[.pointer (some ⟨g, 0, none⟩), .pointer (some ⟨fbx, 0, none⟩), .pointer (some ⟨nbx, 0, none⟩)] w fun e w' => ∃ r, e = .returned (.int .i64 r) ∧ (r = 0 ∧ Blk w' nbx 3 #[.int .i64 (dur : Int)] ∧ Chg (fun k => k = nbx) w w') := by
  have HC := Lib.hid (durable_img hi)
  have HN := Lib.hid hn
  have c1 : w.cell? ⟨nbx, 0, none⟩ = some (.int .i64 0) := hn.cell 0
  have f1 := hn.frozen 0
  clear hi hn
  go_enter Tryz.func127, Tryz.ntmps127
  go_wp2_with fail
  refine HC.out.mono ?_
  rintro e w' ⟨rfl, rfl⟩
  go_wp2_with fail
  go_ret
  exact ⟨0, rfl, rfl, (HN.out).set_ 0 _, Chg.setCell (Chg.refl (fun k => k = nbx) w) (p := ⟨nbx, 0, none⟩) (.inl rfl) _⟩
set_option maxRecDepth 100000 in
set_option maxHeartbeats 1000000 in
theorem ask_Durable (h : IsDisk w d rb n lay D) (hn : 0 < n) (i : Nat) (hi : i < n) :
    Calls Tryz.prog 83 #[.pointer (some ⟨d, 0, none⟩), .int .i64 (i : Int), .func (.func 95) #[] #[]] w fun e w' => e = .returned (.tuple #[.int .i64 ((D i).dur : Int), .int .i64 0]) ∧ Below w.heap.size w w' := by
  obtain ⟨wa, hwa⟩ : ∃ wa : World, wa = (w.alloc (.cells #[.func (.func 95) #[] #[]] 117)).alloc (.cells #[.int .i64 0] 3) := ⟨_, rfl⟩
  have HB : Hid (Below w.heap.size w wa) := by rw [hwa]; exact ((Below.refl _ _).alloc (Nat.le_refl _) _).alloc (by simp) _
  have hb1 : Blk wa w.heap.size 117 #[.func (.func 95) #[] #[]] := by rw [hwa]; exact (Blk.new w _ _).alloc _
  have hb2 : Blk wa (w.heap.size + 1) 3 #[.int .i64 0] := by
    rw [hwa]
    have := Blk.new (w.alloc (.cells #[.func (.func 95) #[] #[]] 117)) 3 #[.int .i64 0]
    rw [World.size_alloc] at this
    exact this
  have HD := Lib.hid (h.below HB.out)
  have HC := Lib.hid (with_ask HD.out hn i hi (.pointer (some ⟨w.heap.size, 0, none⟩)) (.pointer (some ⟨w.heap.size + 1, 0, none⟩)) _ (cl_Durable (HD.out.img i hi) w.heap.size (w.heap.size + 1) (by omega) (hb1.cell 0) hb2))
  have HWA := Lib.hid hwa
  clear h hb1 hb2 hwa
  go_enter Tryz.func83, Tryz.ntmps83
  go_wp2_with fail
  rw [← HWA.out]
  refine HC.out.mono ?_
  rintro e w' ⟨r, rfl, hq⟩
  have c1 : w'.cell? ⟨w.heap.size + 1, 0, none⟩ = some (.int .i64 ((D i).dur : Int)) := hq.out.2.1.cell 0
  have hr0 : r = 0 := hq.out.1
  have HBW : Hid (Below w.heap.size w w') := HB.out.trans (hq.out.2.2.below (by have := HB.out.size; exact this) (fun k hk => by omega))
  subst hr0
  clear hq
  go_wp2_with fail
  go_ret2
  exact ⟨rfl, HBW.out⟩
set_option maxRecDepth 100000 in
set_option maxHeartbeats 400000 in
theorem disk_durable (h : IsDisk w d rb n lay D) (hn : 0 < n) (i : Nat) (hi : i < n) :
    Calls Tryz.prog 44 #[.pointer (some ⟨d, 0, none⟩), .int .i64 (i : Int)] w fun e w' => e = .returned (.tuple #[.int .i64 ((D i).dur : Int), .int .i64 0]) ∧ Below w.heap.size w w' := by
  have HC := Lib.hid (ask_Durable h hn i hi)
  clear h
  go_enter Tryz.func44, Tryz.ntmps44
  go_wp2_with fail
  refine HC.out.mono ?_
  rintro e w' ⟨rfl, hb⟩
  have HB := Lib.hid hb
  clear hb
  go_wp2_with fail
  go_ret2
  exact ⟨rfl, HB.out⟩
set_option maxRecDepth 100000 in
set_option maxHeartbeats 400000 in
theorem cl_Room (hi : IsImg w g fb l size dur) (fbx nbx : Nat) (hne : fbx ≠ nbx) (hc : w.cell? ⟨fbx, 0, none⟩ = some (.func (.func 84) #[] #[])) (hn : Blk w nbx 3 #[.int .i64 0]) :
    Calls Tryz.prog 127 #[.pointer (some ⟨g, 0, none⟩), .pointer (some ⟨fbx, 0, none⟩), .pointer (some ⟨nbx, 0, none⟩)] w fun e w' => ∃ r, e = .returned (.int .i64 r) ∧ (r = 0 ∧ Blk w' nbx 3 #[.int .i64 ((size : Int) - (l.length : Int))] ∧ Chg (fun k => k = nbx) w w') := by
  have HC := Lib.hid (room_img hi)
  have HN := Lib.hid hn
  have c1 : w.cell? ⟨nbx, 0, none⟩ = some (.int .i64 0) := hn.cell 0
  have f1 := hn.frozen 0
  obtain ⟨hu1, hu2, hu3, hu4⟩ := hi.nums
  clear hi hn
  go_enter Tryz.func127, Tryz.ntmps127
  go_wp2_with fail
  refine HC.out.mono ?_
  rintro e w' ⟨rfl, q, rfl⟩
  go_wp2_with fail
  go_ret
  exact ⟨0, rfl, rfl, (HN.out.drewN q).set_ 0 _, Chg.setCell ((Chg.refl (fun k => k = nbx) w).drewN q) (p := ⟨nbx, 0, none⟩) (.inl rfl) _⟩
set_option maxRecDepth 100000 in
set_option maxHeartbeats 1000000 in
theorem ask_Room (h : IsDisk w d rb n lay D) (hn : 0 < n) (i : Nat) (hi : i < n) :
    Calls Tryz.prog 83 #[.pointer (some ⟨d, 0, none⟩), .int .i64 (i : Int), .func (.func 84) #[] #[]] w fun e w' => e = .returned (.tuple #[.int .i64 (((D i).size : Int) - ((D i).bytes.length : Int)), .int .i64 0]) ∧ Below w.heap.size w w' := by
  obtain ⟨wa, hwa⟩ : ∃ wa : World, wa = (w.alloc (.cells #[.func (.func 84) #[] #[]] 117)).alloc (.cells #[.int .i64 0] 3) := ⟨_, rfl⟩
  have HB : Hid (Below w.heap.size w wa) := by rw [hwa]; exact ((Below.refl _ _).alloc (Nat.le_refl _) _).alloc (by simp) _
  have hb1 : Blk wa w.heap.size 117 #[.func (.func 84) #[] #[]] := by rw [hwa]; exact (Blk.new w _ _).alloc _
  have hb2 : Blk wa (w.heap.size + 1) 3 #[.int .i64 0] := by
    rw [hwa]
    have := Blk.new (w.alloc (.cells #[.func (.func 84) #[] #[]] 117)) 3 #[.int .i64 0]
    rw [World.size_alloc] at this
    exact this
  have HD := Lib.hid (h.below HB.out)
  have HC := Lib.hid (with_ask HD.out hn i hi (.pointer (some ⟨w.heap.size, 0, none⟩)) (.pointer (some ⟨w.heap.size + 1, 0, none⟩)) _ (cl_Room (HD.out.img i hi) w.heap.size (w.heap.size + 1) (by omega) (hb1.cell 0) hb2))
  have HWA := Lib.hid hwa
  clear h hb1 hb2 hwa
  go_enter Tryz.func83, Tryz.ntmps83
  go_wp2_with fail
  rw [← HWA.out]
  refine HC.out.mono ?_
  rintro e w' ⟨r, rfl, hq⟩
  have c1 : w'.cell? ⟨w.heap.size + 1, 0, none⟩ = some (.int .i64 (((D i).size : Int) - ((D i).bytes.length : Int))) := hq.out.2.1.cell 0
  have hr0 : r = 0 := hq.out.1
  have HBW : Hid (Below w.heap.size w w') := HB.out.trans (hq.out.2.2.below (by have := HB.out.size; exact this) (fun k hk => by omega))
  subst hr0
  clear hq
  go_wp2_with fail
  go_ret2
  exact ⟨rfl, HBW.out⟩
set_option maxRecDepth 100000 in
set_option maxHeartbeats 400000 in
theorem disk_room (h : IsDisk w d rb n lay D) (hn : 0 < n) (i : Nat) (hi : i < n) :
    Calls Tryz.prog 34 #[.pointer (some ⟨d, 0, none⟩), .int .i64 (i : Int)] w fun e w' => e = .returned (.tuple #[.int .i64 (((D i).size : Int) - ((D i).bytes.length : Int)), .int .i64 0]) ∧ Below w.heap.size w w' := by
  have HC := Lib.hid (ask_Room h hn i hi)
  clear h
  go_enter Tryz.func34, Tryz.ntmps34
  go_wp2_with fail
  refine HC.out.mono ?_
  rintro e w' ⟨rfl, hb⟩
  have HB := Lib.hid hb
  clear hb
  go_wp2_with fail
  go_ret2
  exact ⟨rfl, HB.out⟩
set_option maxRecDepth 100000 in
set_option maxHeartbeats 1000000 in
theorem ask_range (h : IsDisk w d rb n lay D) (hn : 0 < n) (i : Int) (hi : i < 0 ∨ (n : Int) ≤ i) (K : Nat) :
    Calls Tryz.prog 83 #[.pointer (some ⟨d, 0, none⟩), .int .i64 i, .func (.func K) #[] #[]] w fun e w' => e = .returned (.tuple #[.int .i64 0, .int .i64 3]) ∧ Below w.heap.size w w' := by
  obtain ⟨wa, hwa⟩ : ∃ wa : World, wa = (w.alloc (.cells #[.func (.func K) #[] #[]] 117)).alloc (.cells #[.int .i64 0] 3) := ⟨_, rfl⟩
  have HB : Hid (Below w.heap.size w wa) := by rw [hwa]; exact ((Below.refl _ _).alloc (Nat.le_refl _) _).alloc (by simp) _
  have hb2 : Blk wa (w.heap.size + 1) 3 #[.int .i64 0] := by
    rw [hwa]
    have := Blk.new (w.alloc (.cells #[.func (.func K) #[] #[]] 117)) 3 #[.int .i64 0]
    rw [World.size_alloc] at this
    exact this
  have c1 : wa.cell? ⟨w.heap.size + 1, 0, none⟩ = some (.int .i64 0) := hb2.cell 0
  have HD := Lib.hid (h.below HB.out)
  have HI := Lib.hid hi
  have HWA := Lib.hid hwa
  clear h hb2 hwa hi
  go_enter Tryz.func83, Tryz.ntmps83
  go_wp2_with fail
  rw [← HWA.out]
  refine (with_range HD.out hn i HI.out _).mono ?_
  rintro e w' ⟨rfl, rfl⟩
  go_wp2_with fail
  go_ret2
  exact ⟨rfl, HB.out⟩
set_option maxRecDepth 100000 in
set_option maxHeartbeats 400000 in
theorem disk_len_range (h : IsDisk w d rb n lay D) (hn : 0 < n) (i : Int) (hi : i < 0 ∨ (n : Int) ≤ i) :
    Calls Tryz.prog 94 #[.pointer (some ⟨d, 0, none⟩), .int .i64 i] w fun e w' => e = .returned (.tuple #[.int .i64 0, .int .i64 3]) ∧ Below w.heap.size w w' := by
  have HC := Lib.hid (ask_range h hn i hi 133)
  clear h hi
  go_enter Tryz.func94, Tryz.ntmps94
  go_wp2_with fail
  refine HC.out.mono ?_
  rintro e w' ⟨rfl, hb⟩
  have HB := Lib.hid hb
  clear hb
  go_wp2_with fail
  go_ret2
  exact ⟨rfl, HB.out⟩
set_option maxRecDepth 100000 in
set_option maxHeartbeats 400000 in
theorem disk_durable_range (h : IsDisk w d rb n lay D) (hn : 0 < n) (i : Int) (hi : i < 0 ∨ (n : Int) ≤ i) :
    Calls Tryz.prog 44 #[.pointer (some ⟨d, 0, none⟩), .int .i64 i] w fun e w' => e = .returned (.tuple #[.int .i64 0, .int .i64 3]) ∧ Below w.heap.size w w' := by
  have HC := Lib.hid (ask_range h hn i hi 95)
  clear h hi
  go_enter Tryz.func44, Tryz.ntmps44
  go_wp2_with fail
  refine HC.out.mono ?_
  rintro e w' ⟨rfl, hb⟩
  have HB := Lib.hid hb
  clear hb
  go_wp2_with fail
  go_ret2
  exact ⟨rfl, HB.out⟩
set_option maxRecDepth 100000 in
set_option maxHeartbeats 400000 in
theorem disk_room_range (h : IsDisk w d rb n lay D) (hn : 0 < n) (i : Int) (hi : i < 0 ∨ (n : Int) ≤ i) :
    Calls Tryz.prog 34 #[.pointer (some ⟨d, 0, none⟩), .int .i64 i] w fun e w' => e = .returned (.tuple #[.int .i64 0, .int .i64 3]) ∧ Below w.heap.size w w' := by
  have HC := Lib.hid (ask_range h hn i hi 84)
  clear h hi
  go_enter Tryz.func34, Tryz.ntmps34
  go_wp2_with fail
  refine HC.out.mono ?_
  rintro e w' ⟨rfl, hb⟩
  have HB := Lib.hid hb
  clear hb
  go_wp2_with fail
  go_ret2
  exact ⟨rfl, HB.out⟩
set_option maxRecDepth 100000 in
set_option maxHeartbeats 1000000 in
theorem ask_no (h : NoDisk w p) (i : Int) (K : Nat) :
    Calls Tryz.prog 83 #[.pointer p, .int .i64 i, .func (.func K) #[] #[]] w fun e w' => e = .returned (.tuple #[.int .i64 0, .int .i64 1]) ∧ Below w.heap.size w w' := by
  obtain ⟨wa, hwa⟩ : ∃ wa : World, wa = (w.alloc (.cells #[.func (.func K) #[] #[]] 117)).alloc (.cells #[.int .i64 0] 3) := ⟨_, rfl⟩
  have HB : Hid (Below w.heap.size w wa) := by rw [hwa]; exact ((Below.refl _ _).alloc (Nat.le_refl _) _).alloc (by simp) _
  have hb2 : Blk wa (w.heap.size + 1) 3 #[.int .i64 0] := by
    rw [hwa]
    have := Blk.new (w.alloc (.cells #[.func (.func K) #[] #[]] 117)) 3 #[.int .i64 0]
    rw [World.size_alloc] at this
    exact this
  have c1 : wa.cell? ⟨w.heap.size + 1, 0, none⟩ = some (.int .i64 0) := hb2.cell 0
  have HD := Lib.hid (h.below HB.out)
  have HWA := Lib.hid hwa
  clear h hb2 hwa
  go_enter Tryz.func83, Tryz.ntmps83
  go_wp2_with fail
  rw [← HWA.out]
  refine (with_nodisk HD.out i _).mono ?_
  rintro e w' ⟨rfl, rfl⟩
  go_wp2_with fail
  go_ret2
  exact ⟨rfl, HB.out⟩
set_option maxRecDepth 100000 in
set_option maxHeartbeats 400000 in
theorem disk_len_no (h : NoDisk w p) (i : Int) :
    Calls Tryz.prog 94 #[.pointer p, .int .i64 i] w fun e w' => e = .returned (.tuple #[.int .i64 0, .int .i64 1]) ∧ Below w.heap.size w w' := by
  have HC := Lib.hid (ask_no h i 133)
  clear h
  go_enter Tryz.func94, Tryz.ntmps94
  go_wp2_with fail
  refine HC.out.mono ?_
  rintro e w' ⟨rfl, hb⟩
  have HB := Lib.hid hb
  clear hb
  go_wp2_with fail
  go_ret2
  exact ⟨rfl, HB.out⟩
set_option maxRecDepth 100000 in
set_option maxHeartbeats 400000 in
theorem disk_durable_no (h : NoDisk w p) (i : Int) :
    Calls Tryz.prog 44 #[.pointer p, .int .i64 i] w fun e w' => e = .returned (.tuple #[.int .i64 0, .int .i64 1]) ∧ Below w.heap.size w w' := by
  have HC := Lib.hid (ask_no h i 95)
  clear h
  go_enter Tryz.func44, Tryz.ntmps44
  go_wp2_with fail
  refine HC.out.mono ?_
  rintro e w' ⟨rfl, hb⟩
  have HB := Lib.hid hb
  clear hb
  go_wp2_with fail
  go_ret2
  exact ⟨rfl, HB.out⟩
set_option maxRecDepth 100000 in
set_option maxHeartbeats 400000 in
theorem disk_room_no (h : NoDisk w p) (i : Int) :
    Calls Tryz.prog 34 #[.pointer p, .int .i64 i] w fun e w' => e = .returned (.tuple #[.int .i64 0, .int .i64 1]) ∧ Below w.heap.size w w' := by
  have HC := Lib.hid (ask_no h i 84)
  clear h
  go_enter Tryz.func34, Tryz.ntmps34
  go_wp2_with fail
  refine HC.out.mono ?_
  rintro e w' ⟨rfl, hb⟩
  have HB := Lib.hid hb
  clear hb
  go_wp2_with fail
  go_ret2
  exact ⟨rfl, HB.out⟩
/-- What a read gives: the value, the error. -/
def ReadQ (w : World) (l : List (BitVec 8)) (off m : Int) (v : Value) (r : Int) (w' : World) : Prop :=
  (∃ a b : Nat, off = a ∧ m = b ∧ a + b ≤ l.length ∧ r = 0 ∧ w'.ownsRow w.heap.size 5 1 v b (u8s ((l.drop a).take b))) ∨ (badRead l.length off m ∧ r = 3 ∧ v = .slice none 0 0)
theorem read_any (hi : IsImg w g fb l size dur) (off m : Int) :
    Calls Tryz.prog 93 #[.pointer (some ⟨g, 0, none⟩), .int .i64 off, .int .i64 m] w fun e w' => ∃ v r, e = .returned (.tuple #[v, .int .i64 r]) ∧ ReadQ w l off m v r w' ∧ Below w.heap.size w w' := by
  rcases bad_or l.length off m with h | ⟨a, b, rfl, rfl, hab⟩
  · refine (read_img_bad hi off m h).mono ?_
    rintro e w' ⟨rfl, rfl⟩
    exact ⟨_, 3, rfl, .inr ⟨h, rfl, rfl⟩, Below.refl _ _⟩
  · refine (read_img hi a b hab).mono ?_
    rintro e w' ⟨v, rfl, h1, h2⟩
    exact ⟨v, 0, rfl, .inl ⟨a, b, rfl, rfl, hab, rfl, h1⟩, h2⟩
set_option maxRecDepth 100000 in
set_option maxHeartbeats 1000000 in
theorem cl_read (hi : IsImg w g fb l size dur) (ob nb bb : Nat) (off m : Int) (ho : w.cell? ⟨ob, 0, none⟩ = some (.int .i64 off)) (hn : w.cell? ⟨nb, 0, none⟩ = some (.int .i64 m)) (hb : Blk w bb 23 #[.slice none 0 0]) :
    Calls Tryz.prog 92 #[.pointer (some ⟨g, 0, none⟩), .pointer (some ⟨ob, 0, none⟩), .pointer (some ⟨nb, 0, none⟩), .pointer (some ⟨bb, 0, none⟩)] w fun e w' => ∃ r, e = .returned (.int .i64 r) ∧
      ∃ v w2, Blk w' bb 23 #[v] ∧ ReadQ w l off m v r w2 ∧ Below w.heap.size w w2 ∧ w' = w2.setCell ⟨bb, 0, none⟩ v ∧ ∃ A k c, v = .slice A k c := by
  have HC := Lib.hid (read_any hi off m)
  have HN := Lib.hid hb
  have hlt := hb.lt
  clear hi hb
  go_enter Tryz.func92, Tryz.ntmps92
  go_wp2_with fail
  refine HC.out.mono ?_
  rintro e w2 ⟨v, r, rfl, hq, hbl⟩
  have HK : Hid (Blk w2 bb 23 #[.slice none 0 0]) := HN.out.below hbl hlt
  have hsl : ∃ A k c, v = .slice A k c := by
    rcases hq with ⟨a, b, _, _, _, _, h⟩ | ⟨_, _, h⟩
    · obtain ⟨A, c, h1, _⟩ := own_slice h
      exact ⟨A, b, c, h1⟩
    · exact ⟨none, 0, 0, h⟩
  obtain ⟨A, k, c, rfl⟩ := hsl
  have HQ := Lib.hid hq
  have HBL := Lib.hid hbl
  have c1 : w2.cell? ⟨bb, 0, none⟩ = some (.slice none 0 0) := HK.out.cell 0
  have f1 := HK.out.frozen 0
  clear hq hbl ho hn
  go_wp2_with fail
  go_ret
  exact ⟨r, rfl, _, w2, HK.out.set_ 0 _, HQ.out, HBL.out, rfl, A, k, c, rfl⟩
def DReadQ (w : World) (n : Nat) (D : Nat → SlotD) (i off m : Int) (v : Value) (r : Int) (w' : World) : Prop :=
  (∃ (s : Nat) (a b : Nat), i = s ∧ s < n ∧ off = a ∧ m = b ∧ a + b ≤ (D s).bytes.length ∧ r = 0 ∧ w'.ownsRow w.heap.size 5 1 v b (u8s (((D s).bytes.drop a).take b))) ∨ (∃ s : Nat, i = s ∧ s < n ∧ badRead (D s).bytes.length off m ∧ r = 3 ∧ v = .slice none 0 0) ∨
    ((i < 0 ∨ (n : Int) ≤ i) ∧ r = 3 ∧ v = .slice none 0 0)
set_option maxRecDepth 100000 in
set_option maxHeartbeats 2000000 in
theorem disk_read (h : IsDisk w d rb n lay D) (hn : 0 < n) (i off m : Int) :
    Calls Tryz.prog 41 #[.pointer (some ⟨d, 0, none⟩), .int .i64 i, .int .i64 off, .int .i64 m] w fun e w' => ∃ v r, e = .returned (.tuple #[v, .int .i64 r]) ∧ DReadQ w n D i off m v r w' ∧ Below w.heap.size w w' := by
  obtain ⟨wa, hwa⟩ : ∃ wa : World, wa = ((w.alloc (.cells #[.int .i64 off] 3)).alloc (.cells #[.int .i64 m] 3)).alloc (.cells #[.slice none 0 0] 23) := ⟨_, rfl⟩
  have hbl : Below w.heap.size w wa := by rw [hwa]; exact (((Below.refl _ _).alloc (Nat.le_refl _) _).alloc (by simp) _).alloc (by simp; omega) _
  have hsa : wa.heap.size = w.heap.size + 3 := by rw [hwa]; simp
  have b1 : Blk wa w.heap.size 3 #[.int .i64 off] := by rw [hwa]; exact ((Blk.new w _ _).alloc _).alloc _
  have b2 : Blk wa (w.heap.size + 1) 3 #[.int .i64 m] := by
    rw [hwa]
    have := (Blk.new (w.alloc (.cells #[.int .i64 off] 3)) 3 #[.int .i64 m]).alloc (.cells #[.slice none 0 0] 23)
    rw [World.size_alloc] at this
    exact this
  have b3 : Blk wa (w.heap.size + 1 + 1) 23 #[.slice none 0 0] := by
    rw [hwa]
    have := Blk.new ((w.alloc (.cells #[.int .i64 off] 3)).alloc (.cells #[.int .i64 m] 3)) 23 #[.slice none 0 0]
    rw [World.size_alloc, World.size_alloc] at this
    exact this
  have HB := Lib.hid hbl
  have HD := Lib.hid (h.below hbl)
  have HWA := Lib.hid hwa
  have HSA := Lib.hid hsa
  clear h hwa hbl hsa
  by_cases hi : i < 0 ∨ (n : Int) ≤ i
  · have c1 : wa.cell? ⟨w.heap.size + 1 + 1, 0, none⟩ = some (.slice none 0 0) := b3.cell 0
    have HI := Lib.hid hi
    clear b1 b2 b3 hi
    go_enter Tryz.func41, Tryz.ntmps41
    go_wp2_with fail
    rw [← HWA.out]
    refine (with_range HD.out hn i HI.out _).mono ?_
    rintro e w' ⟨rfl, rfl⟩
    go_wp2_with fail
    go_ret2
    exact ⟨_, 3, rfl, .inr (.inr ⟨HI.out, rfl, rfl⟩), HB.out⟩
  · obtain ⟨s, rfl⟩ := Int.eq_ofNat_of_zero_le (show 0 ≤ i by omega)
    have hs : s < n := by omega
    have HC := Lib.hid (with_Read HD.out hn s hs (.pointer (some ⟨w.heap.size, 0, none⟩)) (.pointer (some ⟨w.heap.size + 1, 0, none⟩)) (.pointer (some ⟨w.heap.size + 1 + 1, 0, none⟩)) _ (cl_read (HD.out.img s hs) w.heap.size (w.heap.size + 1) (w.heap.size + 1 + 1) off m (b1.cell 0) (b2.cell 0) b3))
    clear b1 b2 b3 hi
    go_enter Tryz.func41, Tryz.ntmps41
    go_wp2_with fail
    rw [← HWA.out]
    refine HC.out.mono ?_
    rintro e w' ⟨r, rfl, hq⟩
    obtain ⟨v, w2, hk, hq2, hb2, hw', A, k, c, rfl⟩ := hq.out
    have c1 : w'.cell? ⟨w.heap.size + 1 + 1, 0, none⟩ = some (.slice A k c) := hk.cell 0
    have hbw : Below w.heap.size w w' := by
      rw [hw']
      exact (HB.out.trans (hb2.mono (by have := HSA.out; omega))).setCell (p := ⟨w.heap.size + 1 + 1, 0, none⟩) (by simp; omega) _
    have hD : DReadQ w n D (s : Int) off m (.slice A k c) r w' := by
      rcases hq2 with ⟨a, b, h1, h2, h3, h4, h5⟩ | ⟨h1, h2, h3⟩
      · refine .inl ⟨s, a, b, rfl, hs, h1, h2, h3, h4, ?_⟩
        have h6 : ∀ q, (Value.slice A k c).ownBlock = some q → wa.heap.size ≤ q := fun q hq => (h5.lt q hq).1
        have h7 := own_chg h5 ((Chg.refl (fun q => q = w.heap.size + 1 + 1) w2).setCell (p := ⟨w.heap.size + 1 + 1, 0, none⟩) (.inl rfl) (.slice A k c)) (fun q hq e => by have := h6 q hq; have := HSA.out; omega)
        rw [hw']
        exact own_base h7 (fun q hq => by have := h6 q hq; have := HSA.out; omega)
      · exact .inr (.inl ⟨s, rfl, hs, h1, h2, h3⟩)
    have HBW := Lib.hid hbw
    have HDQ := Lib.hid hD
    clear hq hk hq2 hb2 hw' hbw hD
    go_wp2_with fail
    go_ret2
    exact ⟨_, r, rfl, HDQ.out, HBW.out⟩
set_option maxRecDepth 100000 in
set_option maxHeartbeats 1000000 in
theorem disk_read_no (h : NoDisk w p) (i off m : Int) :
    Calls Tryz.prog 41 #[.pointer p, .int .i64 i, .int .i64 off, .int .i64 m] w fun e w' => e = .returned (.tuple #[.slice none 0 0, .int .i64 1]) ∧ Below w.heap.size w w' := by
  obtain ⟨wa, hwa⟩ : ∃ wa : World, wa = ((w.alloc (.cells #[.int .i64 off] 3)).alloc (.cells #[.int .i64 m] 3)).alloc (.cells #[.slice none 0 0] 23) := ⟨_, rfl⟩
  have hbl : Below w.heap.size w wa := by rw [hwa]; exact (((Below.refl _ _).alloc (Nat.le_refl _) _).alloc (by simp) _).alloc (by simp; omega) _
  have b3 : Blk wa (w.heap.size + 1 + 1) 23 #[.slice none 0 0] := by
    rw [hwa]
    have := Blk.new ((w.alloc (.cells #[.int .i64 off] 3)).alloc (.cells #[.int .i64 m] 3)) 23 #[.slice none 0 0]
    rw [World.size_alloc, World.size_alloc] at this
    exact this
  have c1 : wa.cell? ⟨w.heap.size + 1 + 1, 0, none⟩ = some (.slice none 0 0) := b3.cell 0
  have HB := Lib.hid hbl
  have HD := Lib.hid (h.below hbl)
  have HWA := Lib.hid hwa
  clear h hwa hbl b3
  go_enter Tryz.func41, Tryz.ntmps41
  go_wp2_with fail
  rw [← HWA.out]
  refine (with_nodisk HD.out i _).mono ?_
  rintro e w' ⟨rfl, rfl⟩
  go_wp2_with fail
  go_ret2
  exact ⟨rfl, HB.out⟩
end
end Go.Proofs.YtnopljanpjmbgaaGreat
namespace Go.Proofs.YtnopljanpjmbgaaGreat
open Go.RowKit
set_option linter.unusedVariables false
theorem updF_at (D : Nat → SlotD) (i : Nat) (x : SlotD) (h : x = D i) : updF D i x = D := by rw [h]; exact updF_id D i
/-- Numbers in memory. -/
def ints (l : List Int) : List Value := l.map (Value.int .i64)
theorem ints_length (l : List Int) : (ints l).length = l.length := by simp [ints]
theorem ints_at {l : List Int} {j : Nat} (hj : j < l.length) : (ints l)[j]? = some (.int .i64 l[j]) := by simp [ints, hj]
theorem reads_news (W : World) (t : TypeId) (cs : Array Value) (fr : Nat × Nat) (n : Nat) (hn : n = cs.size) :
    Reads (W.alloc (.cells cs t fr)) (W.heap.size + 1) 1 (some ⟨W.heap.size, 0, none⟩) n cs.toList := by
  subst hn
  refine ⟨by simp, fun _ => ⟨_, rfl, by simp, fun j u hu => ?_⟩⟩
  rw [add_zero_addr, cell_of_row _ _ j _ t fr (heap_alloc_new W _)]
  simpa using hu
theorem ptr_info : (Tryz.prog.info? 118).map (fun i => (i.zero, i.size, i.bytes)) = some (some (.pointer none), 1, 8) := by kernel_rfl
def okSize (z : Int) : Prop := 1 ≤ z ∧ z ≤ 8192
instance (z : Int) : Decidable (okSize z) := by unfold okSize; infer_instance
def newD (zs : List Int) : Nat → SlotD := fun i => ⟨(zs.getD i 0).toNat, [], 0⟩
theorem isDisk_new (w : World) (D : Nat → SlotD) (lay : Lay) : IsDisk (w.alloc (.cells #[.slice none 0 0] 132)) w.heap.size none 0 lay D :=
  ⟨⟨none, 0, Blk.new w _ _, World.ownsRow_nil _ _ _ _, rfl⟩, by simp, fun i hi => by omega, fun i hi => by omega, fun i j hi => by omega⟩
theorem dfoot_zero (d : Nat) (lay : Lay) (k : Nat) (h : dfoot d none 0 lay k) : k = d := by
  rcases h with h | h | ⟨i, hi, _⟩
  · exact h
  · cases h
  · omega
theorem one_ptr (p : Option Addr) : ∀ u ∈ [Value.pointer p], u.oneCell' = true := by
  intro u hu
  rcases List.mem_singleton.1 hu with rfl
  rfl
/-- What New gives. -/
def NewQ (w : World) (zs : List Int) (n : Nat) (e : Ending) (w' : World) : Prop :=
  ((∀ z ∈ zs, okSize z) ∧ ∃ d rb lay, e = .returned (.tuple #[.pointer (some ⟨d, 0, none⟩), .int .i64 0]) ∧ IsDisk w' d rb n lay (newD zs) ∧ (∀ k, dfoot d rb n lay k → w.heap.size ≤ k) ∧ Below w.heap.size w w') ∨
    ((∃ z ∈ zs, ¬ okSize z) ∧ e = .returned (.tuple #[.pointer none, .int .i64 2]) ∧ Below w.heap.size w w')
set_option maxRecDepth 100000 in
set_option maxHeartbeats 400000 in
theorem newdisk_len (A : Option Addr) (n c : Nat) (w : World) (h : n < 1 ∨ 34 < n) (hm : n ≤ maxLen) :
    Calls Tryz.prog 51 #[.slice A n c] w fun e w' => e = .returned (.tuple #[.pointer none, .int .i64 2]) ∧ w = w' := by
  unfold maxLen at hm
  by_cases h1 : n < 1
  · clear h
    go_enter Tryz.func51, Tryz.ntmps51
    go_wp2_with fail
    go_ret2
    exact ⟨rfl, rfl⟩
  · have h2 : 34 < n := by omega
    clear h
    go_enter Tryz.func51, Tryz.ntmps51
    go_wp2_with fail
    go_ret2
    exact ⟨rfl, rfl⟩
set_option maxRecDepth 100000 in
set_option maxHeartbeats 2000000 in
theorem newdisk_any (A : Option Addr) (n c : Nat) (zs : List Int) (w : World) (hr : Reads w w.heap.size 1 A n (ints zs)) (h1 : 1 ≤ n) (h2 : n ≤ 34) :
    Calls Tryz.prog 51 #[.slice A n c] w (NewQ w zs n) := by
  obtain ⟨i0, hi0, hz0, hz1, hz2⟩ := info_parts ptr_info
  have hlen : zs.length = n := by have := hr.1; rw [ints_length] at this; omega
  have HR := Lib.hid hr
  have HL := Lib.hid hlen
  clear hr hlen
  go_enter Tryz.func51, Tryz.ntmps51
  go_wp2_with fail
  go_loopg [21] n (fun q v21 wr => ∃ (j : Nat) (rb : Option Nat) (lay : Lay), j + q = n ∧ v21 = .int .i64 j ∧ (∀ i, i < j → okSize (zs.getD i 0)) ∧ IsDisk wr w.heap.size rb j lay (newD zs) ∧ (∀ k, dfoot w.heap.size rb j lay k → w.heap.size ≤ k) ∧ Below w.heap.size w wr)
  case atStart => exact ⟨0, none, fun _ => (0, none), by omega, rfl, (fun i hi => by omega), isDisk_new w _ _, fun k hk => by have := dfoot_zero _ _ _ hk; omega, by go_grown⟩
  case round =>
    obtain ⟨j, rb, lay, hj, rfl, hok, hd, hf, hb⟩ := hrel
    have HOK := Lib.hid hok
    clear hok
    have hj' : j ≤ n := by omega
    have HJ := Lib.hid hj
    have HD := Lib.hid hd
    have HF := Lib.hid hf
    have HB := Lib.hid hb
    by_cases hlt : j < n
    · obtain ⟨ad, u, rfl, hab, hx, hc⟩ := (HR.out.below hb).at_ hlt
      have hjz : j < zs.length := by rw [HL.out]; exact hlt
      rw [ints_at hjz] at hx
      injection hx with hx
      subst hx
      by_cases hok : ¬ okSize zs[j]
      · have HNO := Lib.hid hok
        have hbad : zs[j] < 1 ∨ (1 ≤ zs[j] ∧ 8192 < zs[j]) := by unfold okSize at hok; omega
        have HE := Lib.hid (new_img_err zs[j] wr hbad)
        have HM := Lib.hid (List.getElem_mem hjz)
        obtain ⟨z, hzz⟩ : ∃ z, zs[j] = z := ⟨_, rfl⟩
        rw [hzz] at hc HE HM HNO
        clear hj hd hf hb hok hbad hzz
        go_wp2_with fail
        refine HE.out.mono ?_
        rintro e w' ⟨rfl, rfl⟩
        go_wp2_with fail
        go_ret2
        exact .inr ⟨⟨z, HM.out, HNO.out⟩, rfl, HB.out⟩
      replace hok : okSize zs[j] := by by_cases e : okSize zs[j]; exact e; exact absurd e hok
      have HOK2 : Hid (∀ i, i < j + 1 → okSize (zs.getD i 0)) := fun i hi => by
        by_cases e : i = j
        · subst e
          rw [List.getD_eq_getElem?_getD, List.getElem?_eq_getElem hjz, Option.getD_some]
          exact hok
        · exact HOK.out i (by omega)
      obtain ⟨z, hzz⟩ : ∃ z : Nat, zs[j] = (z : Int) := ⟨zs[j].toNat, by have := hok.1; omega⟩
      rw [hzz] at hc hok
      have hz1' : 1 ≤ z := by have := hok.1; omega
      have hz2' : z ≤ 8192 := by have := hok.2; omega
      have HDJ : Hid ((⟨z, [], 0⟩ : SlotD) = newD zs j) := by
        show _ = _
        unfold newD
        rw [List.getD_eq_getElem?_getD, List.getElem?_eq_getElem hjz, Option.getD_some, hzz]
        rfl
      clear hj hd hf hb hok hzz
      go_wp2_with fail
      refine (new_img z wr hz1' hz2').mono ?_
      rintro e w1 ⟨g, rfl, hi, hg, hb1⟩
      obtain ⟨A3, c3, q0, hc3, hc4, _⟩ := (HD.out.below hb1).cells
      obtain ⟨A4, c4, k1, k2, k3⟩ := (HD.out.below hb1).row
      have hdf : w1.frozen? ⟨w.heap.size, 0, none⟩ = false := k1.frozen 0
      have e4 : A4 = A3 ∧ c4 = c3 := by
        have := k1.cell 0
        rw [q0] at this
        simpa using this.symm
      obtain ⟨rfl, rfl⟩ := e4
      have HI := Lib.hid hi
      have HG := Lib.hid hg
      have HB1 := Lib.hid hb1
      have HK2 := Lib.hid k2
      have HK3 := Lib.hid k3
      have hlt0 : w.heap.size < w1.heap.size := by have := HD.out.lt w.heap.size (.inl rfl); have := hb1.size; omega
      unfold maxLen at hc4
      clear hi hg hb1 k1 k2 k3
      go_wp2_with (at_builtin
                   refine wpList_append_any _ rfl (.tmp 36) (.tmp 38) _ rfl 0 118 i0 _ 1 8 Tryz.underlying130 hi0 hz0 hz1 hz2 rfl (by omega) _ j (ptrsTo lay j) rfl
                     (HK2.out.alloc _) (w1.heap.size + 1) _ 1 1 [.pointer (some ⟨g, 0, none⟩)] rfl (reads_news w1 118 #[.pointer (some ⟨g, 0, none⟩)] (0, 0) 1 rfl) (one_ptr _) (by simp only [maxLen]; omega) (by omega) (Nat.zero_le _) ?_
                   intro v1 w4 hown1 hg1 hat1
                   obtain ⟨A5, c5, rfl, hA5, hc5, hr5⟩ := own_slice hown1
                   have hbs : Below wr.heap.size wr (w1.alloc (.cells #[.pointer (some ⟨g, 0, none⟩)] 118)) := HB1.out.alloc HB1.out.size _
                   have hpu := HD.out.push hbs (x := ⟨z, [], 0⟩) (HI.out.chg (F := fun _ => False) (Chg.of_below ((Below.refl _ _).alloc (Nat.le_refl _) _)) (fun _ _ h => h)) (fun k hk => by
                     rcases hk with rfl | hk
                     · exact HG.out
                     · cases hk) hown1 (by rw [HK3.out]; exact hg1) (by rw [HK3.out]; exact hat1)
                   have HPU := Lib.hid hpu
                   have hcw : w4.cell? ⟨w.heap.size, 0, none⟩ = some (.slice A4 j c4) := by
                     rw [World.cell?_of_block (hg1.block w.heap.size (by simp; omega) (fun e => HD.out.ne (HK3.out.trans e.symm)))]
                     rw [World.cell?_alloc_lt _ _ _ (by exact hlt0)]
                     exact q0
                   have hfw : w4.frozen? ⟨w.heap.size, 0, none⟩ = false := by
                     rw [World.frozen?_of_block (hg1.block w.heap.size (by simp; omega) (fun e => HD.out.ne (HK3.out.trans e.symm)))]
                     rw [World.frozen?_of_block (Below.heap_alloc _ _ _ (by exact hlt0))]
                     exact hdf
                   clear hown1 hg1 hat1 hr5 hbs hpu)
      go_roundg (gk - 1)
      case measure => have := HJ.out; omega
      case rel =>
        obtain ⟨p1, p2, p3⟩ := HPU.out
        rw [updF_at _ _ _ HDJ.out] at p1
        refine ⟨j + 1, _, _, by have := HJ.out; omega, by go_num, HOK2.out, p1, fun k hk => ?_, HB.out.trans (p2.below HB.out.size HF.out)⟩
        rcases p3 k hk with e | e
        · exact HF.out k e
        · have := HB.out.size; omega
    · have e8 : j = n := by omega
      subst e8
      clear hj hd hf hb
      go_wp2_with fail
      go_ret2
      refine .inl ⟨fun z hz => ?_, _, rb, lay, rfl, HD.out, HF.out, HB.out⟩
      obtain ⟨i, hi, rfl⟩ := List.getElem_of_mem hz
      have := HOK.out i (by rw [← HL.out]; exact hi)
      rwa [List.getD_eq_getElem?_getD, List.getElem?_eq_getElem hi, Option.getD_some] at this
end Go.Proofs.YtnopljanpjmbgaaGreat
namespace Go.Proofs.YtnopljanpjmbgaaGreat
open Go.RowKit
set_option linter.unusedVariables false
section
variable {w : World} {d n : Nat} {rb : Option Nat} {lay : Lay} {D : Nat → SlotD} {p : Option Addr}
end
end Go.Proofs.YtnopljanpjmbgaaGreat

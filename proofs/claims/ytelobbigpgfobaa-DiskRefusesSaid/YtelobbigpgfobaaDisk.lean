/-
  A disk in memory: its block, its row of images, the images; what the calls' own changes leave. No condition.
-/
import Derived.Test.YtelobbigpgfobaaCells
import Derived.Test.YtelobbigpgfobaaImgSt
namespace Go.Proofs.Ytelobbigpgfobaa
open Go.RowKit
set_option linter.unusedVariables false
/-- What a slot holds. -/
structure SlotD where
  size : Nat
  bytes : List (BitVec 8)
  dur : Nat
/-- Where each slot's image lies: its block, and its bytes' block. -/
abbrev Lay := Nat → Nat × Option Nat
def updF {α : Type} (f : Nat → α) (i : Nat) (x : α) : Nat → α := fun j => if j = i then x else f j
theorem updF_same {α : Type} (f : Nat → α) (i : Nat) (x : α) : updF f i x i = x := by simp [updF]
theorem updF_other {α : Type} (f : Nat → α) {i j : Nat} (x : α) (h : j ≠ i) : updF f i x j = f j := by simp [updF, h]
def ptrsTo (lay : Lay) (n : Nat) : List Value := (List.range n).map fun i => .pointer (some ⟨(lay i).1, 0, none⟩)
theorem ptrsTo_length (lay : Lay) (n : Nat) : (ptrsTo lay n).length = n := by simp [ptrsTo]
theorem ptrsTo_at (lay : Lay) {n i : Nat} (h : i < n) : (ptrsTo lay n)[i]? = some (.pointer (some ⟨(lay i).1, 0, none⟩)) := by simp [ptrsTo, h]
theorem ptrsTo_congr {lay lay' : Lay} {n : Nat} (h : ∀ i, i < n → (lay' i).1 = (lay i).1) : ptrsTo lay' n = ptrsTo lay n := by
  unfold ptrsTo
  apply List.map_congr_left
  intro i hi
  rw [h i (List.mem_range.1 hi)]
theorem ptrsTo_succ (lay : Lay) (n : Nat) : ptrsTo lay (n + 1) = ptrsTo lay n ++ [.pointer (some ⟨(lay n).1, 0, none⟩)] := by simp [ptrsTo, List.range_succ]
/-- A slot's blocks. -/
def sfoot (lay : Lay) (i : Nat) : Nat → Prop := foot (lay i).1 (lay i).2
/-- A disk's blocks. -/
def dfoot (d : Nat) (rb : Option Nat) (n : Nat) (lay : Lay) : Nat → Prop := fun k => k = d ∨ rb = some k ∨ ∃ i, i < n ∧ sfoot lay i k
structure IsDisk (w : World) (d : Nat) (rb : Option Nat) (n : Nat) (lay : Lay) (D : Nat → SlotD) : Prop where
  row : ∃ A c, Blk w d 64 #[.slice A n c] ∧ w.ownsRow 0 71 1 (.slice A n c) n (ptrsTo lay n) ∧ rb = (Value.slice A n c).ownBlock
  ne : rb ≠ some d
  img : ∀ i, i < n → IsImg w (lay i).1 (lay i).2 (D i).bytes (D i).size (D i).dur
  own : ∀ i, i < n → ∀ k, sfoot lay i k → k ≠ d ∧ rb ≠ some k
  apart : ∀ i j, i < n → j < n → i ≠ j → ∀ k, sfoot lay i k → ¬ sfoot lay j k
section
variable {w w' : World} {d n : Nat} {rb : Option Nat} {lay : Lay} {D : Nat → SlotD}
theorem IsDisk.chg {F : Nat → Prop} (h : IsDisk w d rb n lay D) (hc : Chg F w w') (hF : ∀ k, dfoot d rb n lay k → ¬ F k) : IsDisk w' d rb n lay D := by
  obtain ⟨⟨A, c, h1, h2, h3⟩, h4, h5, h6, h7⟩ := h
  exact ⟨⟨A, c, h1.chg hc (hF _ (.inl rfl)), own_chg h2 hc (fun k hk => hF k (.inr (.inl (h3.trans hk)))), h3⟩, h4, fun i hi => (h5 i hi).chg hc (fun k hk => hF k (.inr (.inr ⟨i, hi, hk⟩))), h6, h7⟩
theorem IsDisk.lt (h : IsDisk w d rb n lay D) : ∀ k, dfoot d rb n lay k → k < w.heap.size := by
  obtain ⟨⟨A, c, h1, h2, h3⟩, h4, h5, h6, h7⟩ := h
  intro k hk
  rcases hk with rfl | hk | ⟨i, hi, hk⟩
  · exact h1.lt
  · exact (h2.lt k (h3.symm.trans hk)).2
  · exact (h5 i hi).lt k hk
theorem IsDisk.below (h : IsDisk w d rb n lay D) (hb : Below w.heap.size w w') : IsDisk w' d rb n lay D := h.chg (F := fun _ => False) (Chg.of_below hb) (fun _ _ h => h)
/-- One slot has turned. -/
theorem IsDisk.upd (h : IsDisk w d rb n lay D) {i : Nat} (hi : i < n) {fb' : Option Nat} {x : SlotD} (hx : IsImg w' (lay i).1 fb' x.bytes x.size x.dur) (hc : Chg (sfoot lay i) w w') (hfb : ∀ k, fb' = some k → (lay i).2 = some k ∨ w.heap.size ≤ k) :
    IsDisk w' d rb n (updF lay i ((lay i).1, fb')) (updF D i x) ∧ ∀ k, dfoot d rb n (updF lay i ((lay i).1, fb')) k → dfoot d rb n lay k ∨ w.heap.size ≤ k := by
  have hlt := h.lt
  obtain ⟨⟨A, c, h1, h2, h3⟩, h4, h5, h6, h7⟩ := h
  have hp : ptrsTo (updF lay i ((lay i).1, fb')) n = ptrsTo lay n := ptrsTo_congr (fun j hj => by
    by_cases e : j = i
    · subst e; rw [updF_same]
    · rw [updF_other _ _ e])
  have hs : ∀ k, sfoot (updF lay i ((lay i).1, fb')) i k → sfoot lay i k ∨ w.heap.size ≤ k := by
    intro k hk
    unfold sfoot at hk
    rw [updF_same] at hk
    rcases hk with hk | hk
    · exact .inl (.inl hk)
    · rcases hfb k hk with e | e
      · exact .inl (.inr e)
      · exact .inr e
  have ho : ∀ j, j ≠ i → sfoot (updF lay i ((lay i).1, fb')) j = sfoot lay j := fun j e => by unfold sfoot; rw [updF_other _ _ e]
  refine ⟨⟨⟨A, c, h1.chg hc (fun e => (h6 i hi d e).1 rfl), ?_, h3⟩, h4, fun j hj => ?_, fun j hj k hk => ?_, fun j1 j2 hj1 hj2 hne k hk hk2 => ?_⟩, fun k hk => ?_⟩
  · rw [hp]
    exact own_chg h2 hc (fun k hk e => (h6 i hi k e).2 (h3.trans hk))
  · by_cases e : j = i
    · subst e; rw [updF_same, updF_same]; exact hx
    · rw [updF_other _ _ e, updF_other _ _ e]
      exact (h5 j hj).chg hc (fun k hk hk2 => h7 j i hj hi e k hk hk2)
  · by_cases e : j = i
    · subst e
      rcases hs k hk with e | e
      · exact h6 j hj k e
      · have hd := h1.lt
        refine ⟨by omega, fun e2 => ?_⟩
        have := hlt k (.inr (.inl e2))
        omega
    · rw [ho j e] at hk; exact h6 j hj k hk
  · by_cases e1 : j1 = i
    · subst e1
      have e2 : j2 ≠ j1 := fun e => hne e.symm
      rw [ho j2 e2] at hk2
      rcases hs k hk with e | e
      · exact h7 j1 j2 hj1 hj2 hne k e hk2
      · have := (h5 j2 hj2).lt k hk2; omega
    · rw [ho j1 e1] at hk
      by_cases e2 : j2 = i
      · subst e2
        rcases hs k hk2 with e | e
        · exact h7 j1 j2 hj1 hj2 hne k hk e
        · have := (h5 j1 hj1).lt k hk; omega
      · rw [ho j2 e2] at hk2
        exact h7 j1 j2 hj1 hj2 hne k hk hk2
  · rcases hk with hk | hk | ⟨j, hj, hk⟩
    · exact .inl (.inl hk)
    · exact .inl (.inr (.inl hk))
    · by_cases e : j = i
      · subst e
        rcases hs k hk with e | e
        · exact .inl (.inr (.inr ⟨j, hj, e⟩))
        · exact .inr e
      · rw [ho j e] at hk
        exact .inl (.inr (.inr ⟨j, hj, hk⟩))
/-- One slot more: its image is new; the row has grown; the disk's block has been stored into. -/
theorem IsDisk.push {w1 w2 : World} {g : Nat} {fb : Option Nat} {x : SlotD} {A' : Option Addr} {c' : Nat} (h : IsDisk w d rb n lay D) (hb : Below w.heap.size w w1) (hx : IsImg w1 g fb x.bytes x.size x.dur) (hf : ∀ k, foot g fb k → w.heap.size ≤ k)
    (ho : w2.ownsRow 0 71 1 (.slice A' (n + 1) c') (n + 1) (ptrsTo lay n ++ [.pointer (some ⟨g, 0, none⟩)])) (hg : w1.grownBy w2 rb) (hat : (Value.slice A' (n + 1) c').ownBlock = rb ∨ (Value.slice A' (n + 1) c').ownBlock = some w1.heap.size) :
    IsDisk (w2.setCell ⟨d, 0, none⟩ (.slice A' (n + 1) c')) d (Value.slice A' (n + 1) c').ownBlock (n + 1) (updF lay n (g, fb)) (updF D n x) ∧ Chg (dfoot d rb n lay) w (w2.setCell ⟨d, 0, none⟩ (.slice A' (n + 1) c')) ∧
      ∀ k, dfoot d (Value.slice A' (n + 1) c').ownBlock (n + 1) (updF lay n (g, fb)) k → dfoot d rb n lay k ∨ w.heap.size ≤ k := by
  have hlt := h.lt
  have h' := h.below hb
  have hsz := hb.size
  have hdn : ∀ k, (Value.slice A' (n + 1) c').ownBlock = some k → k ≠ d ∧ (rb = some k ∨ w1.heap.size ≤ k) := fun k hk => by
    rcases hat with e | e
    · rw [e] at hk
      exact ⟨fun e2 => h.ne (by rw [hk, e2]), .inl hk⟩
    · rw [e] at hk
      injection hk with hk
      have := hlt d (.inl rfl)
      exact ⟨by omega, .inr (by omega)⟩
  have hc1 : Chg (fun k => rb = some k) w1 w2 := (Chg.refl _ w1).grown hg (fun q hq => .inl hq)
  have hc2 : Chg (fun k => rb = some k ∨ k = d) w1 (w2.setCell ⟨d, 0, none⟩ (.slice A' (n + 1) c')) := (hc1.mono (fun k _ hk => .inl hk)).setCell (p := ⟨d, 0, none⟩) (.inl (.inr rfl)) _
  have hcA : Chg (dfoot d rb n lay) w (w2.setCell ⟨d, 0, none⟩ (.slice A' (n + 1) c')) := (Chg.of_below (F := dfoot d rb n lay) hb).trans hc2 (fun k _ hk => by
    rcases hk with hk | hk
    · exact .inr (.inl hk)
    · exact .inl hk)
  have hs : ∀ j, j < n → sfoot (updF lay n (g, fb)) j = sfoot lay j := fun j hj => by unfold sfoot; rw [updF_other _ _ (by omega)]
  have hsn : sfoot (updF lay n (g, fb)) n = foot g fb := by unfold sfoot; rw [updF_same]
  have hF : ∀ k, dfoot d (Value.slice A' (n + 1) c').ownBlock (n + 1) (updF lay n (g, fb)) k → dfoot d rb n lay k ∨ w.heap.size ≤ k := fun k hk => by
    rcases hk with hk | hk | ⟨j, hj, hk⟩
    · exact .inl (.inl hk)
    · rcases (hdn k hk).2 with e | e
      · exact .inl (.inr (.inl e))
      · exact .inr (by omega)
    · by_cases e : j = n
      · subst e
        rw [hsn] at hk
        exact .inr (hf k hk)
      · rw [hs j (by omega)] at hk
        exact .inl (.inr (.inr ⟨j, by omega, hk⟩))
  refine ⟨⟨⟨A', c', ?_, ?_, rfl⟩, fun e => (hdn d e).1 rfl, fun j hj => ?_, fun j hj k hk => ?_, fun j1 j2 hj1 hj2 hne k hk hk2 => ?_⟩, hcA, hF⟩
  · obtain ⟨A, c, k1, k2, k3⟩ := h'.row
    have k4 : Blk w2 d 64 #[.slice A n c] := k1.chg hc1 (fun e => h.ne e)
    exact k4.set_ 0 _
  · have e : ptrsTo (updF lay n (g, fb)) (n + 1) = ptrsTo lay n ++ [.pointer (some ⟨g, 0, none⟩)] := by
      rw [ptrsTo_succ, updF_same, ptrsTo_congr (fun j hj => by rw [updF_other _ _ (by omega)])]
    rw [e]
    exact own_chg ho ((Chg.refl (fun k => k = d) w2).setCell (p := ⟨d, 0, none⟩) (.inl rfl) _) (fun k hk e => (hdn k hk).1 e)
  · by_cases e : j = n
    · subst e
      rw [updF_same, updF_same]
      refine hx.chg hc2 (fun k hk hk2 => ?_)
      have h1 := hf k hk
      rcases hk2 with e | e
      · have := hlt k (.inr (.inl e)); omega
      · have := hlt d (.inl rfl); omega
    · rw [updF_other _ _ e, updF_other _ _ e]
      refine (h'.img j (by omega)).chg hc2 (fun k hk hk2 => ?_)
      rcases hk2 with e | e
      · exact (h.own j (by omega) k hk).2 e
      · exact (h.own j (by omega) k hk).1 e
  · by_cases e : j = n
    · subst e
      rw [hsn] at hk
      have h1 := hf k hk
      have h2 := hx.lt k hk
      refine ⟨by have := hlt d (.inl rfl); omega, fun e2 => ?_⟩
      rcases (hdn k e2).2 with e | e
      · have := hlt k (.inr (.inl e)); omega
      · omega
    · rw [hs j (by omega)] at hk
      refine ⟨(h.own j (by omega) k hk).1, fun e2 => ?_⟩
      have h2 := (h'.img j (by omega)).lt k hk
      rcases (hdn k e2).2 with e | e
      · exact (h.own j (by omega) k hk).2 e
      · omega
  · by_cases e1 : j1 = n
    · subst e1
      rw [hsn] at hk
      rw [hs j2 (by omega)] at hk2
      have h1 := hf k hk
      have h2 := (h.img j2 (by omega)).lt k hk2
      omega
    · rw [hs j1 (by omega)] at hk
      by_cases e2 : j2 = n
      · subst e2
        rw [hsn] at hk2
        have h1 := hf k hk2
        have h2 := (h.img j1 (by omega)).lt k hk
        omega
      · rw [hs j2 (by omega)] at hk2
        exact h.apart j1 j2 (by omega) (by omega) hne k hk hk2
end
/-- A disk as an object among others. -/
def diskOb (d : Nat) (rb : Option Nat) (n : Nat) (lay : Lay) (D : Nat → SlotD) : Ob where
  P w := IsDisk w d rb n lay D
  F := dfoot d rb n lay
  keep hc hF h := h.chg hc hF
  lt h k hk := h.lt k hk
end Go.Proofs.Ytelobbigpgfobaa

/-
  The builtin clear on a byte slice of the call's own; images and byte slices behind a change that touches neither. Condition: the slice is of the call's own.
-/
import Derived.Test.YtbblbeppiblndaaImgSt
import Derived.Lib.SliceRun
namespace Go.Proofs.Ytbblbeppiblndaa
open Go.RowKit
set_option linter.unusedVariables false
theorem setCells_blk (g : Nat) (t : TypeId) : ∀ (vs : List Value) (o : Nat) (w : World) (cs : Array Value), Blk w g t cs → o + vs.length ≤ cs.size →
    ∃ cs' : Array Value, Blk (w.setCells g o vs) g t cs' ∧ cs'.size = cs.size ∧ (∀ j, cs'[j]? = if o ≤ j ∧ j < o + vs.length then vs[j - o]? else cs[j]?) ∧ Chg (fun k => some g = some k) w (w.setCells g o vs) := by
  intro vs
  induction vs with
  | nil =>
    intro o w cs h _
    exact ⟨cs, h, rfl, fun j => by rw [if_neg (by simp)], Chg.refl _ _⟩
  | cons v vs ih =>
    intro o w cs h hl
    simp only [List.length_cons] at hl
    obtain ⟨cs', h1, h2, h3, h4⟩ := ih (o + 1) _ _ (h.set_ o v) (by simp; omega)
    refine ⟨cs', h1, by rw [h2]; simp, fun j => ?_, ((Chg.refl (fun k => some g = some k) w).setCell (p := ⟨g, o, none⟩) (.inl rfl) v).trans h4 (fun _ _ h => h)⟩
    rw [h3 j]
    simp only [List.length_cons]
    by_cases hj : o + 1 ≤ j ∧ j < o + 1 + vs.length
    · rw [if_pos hj, if_pos (by omega), show j - o = (j - (o + 1)) + 1 by omega, List.getElem?_cons_succ]
    · rw [if_neg hj]
      by_cases he : j = o
      · subst he
        rw [if_pos (by omega), Nat.sub_self]
        simp [show j < cs.size by omega]
      · rw [if_neg (by omega)]
        simp [Ne.symm he]
theorem run_clear_own {w : World} {B : Nat} {v : Value} {l : List (BitVec 8)} (h : Own8 w B v l) (ty : TypeId) :
    ∃ w', (Builtin.clear_ #[25] ty #[v]).run Try.prog w = .ok (.tuple #[]) w' ∧ Own8 w' B v (zbytes l.length) ∧ Chg (fun k => v.ownBlock = some k) w w' := by
  rcases h.2 with ⟨rfl, hl⟩ | ⟨g, cap, cur, rfl, hB, hblk, h1, h2, h3, h4⟩
  · refine ⟨w, by simp [Builtin.clear_, run_underlying Try.underlying25], ⟨by rw [u8s_length, Nat.mul_one], .inl ⟨rfl, by rw [zbytes_length]; exact hl⟩⟩, Chg.refl _ _⟩
  · by_cases h0 : l.length = 0
    · have hl : l = [] := List.length_eq_zero_iff.1 h0
      subst hl
      refine ⟨w, by simp [Builtin.clear_, run_underlying Try.underlying25], h, Chg.refl _ _⟩
    · have hz : ∀ w, (zeroValue 5).run Try.prog w = .ok (.int .u8 0) w := fun w => by kernel_rfl
      have hblk' : Blk w g 5 cur := hblk
      obtain ⟨cs', b1, b2, b3, b4⟩ := setCells_blk g 5 (List.replicate l.length (.int .u8 0)) 0 w cur hblk' (by simp; omega)
      have hrun := Lib.run_clear_slice (P := Try.prog) w 25 5 ty (.int .u8 0) Try.underlying25 hz rfl rfl g 0 l.length cap (by omega)
        (fun j hj => by rw [hblk'.cell, Array.getElem?_eq_getElem (by omega)]; rfl) (fun j hj => hblk'.frozen _)
      refine ⟨_, hrun, ⟨by rw [u8s_length, Nat.mul_one], .inr ⟨g, cap, cs', by rw [zbytes_length], hB, b1, by rw [zbytes_length]; exact h1, h2, by rw [b2]; exact h3, ?_⟩⟩, b4⟩
      apply List.ext_getElem?
      intro j
      rw [zbytes_length, Nat.mul_one, List.getElem?_take]
      have hz8 : ∀ j, j < l.length → (u8s (zbytes l.length))[j]? = some (.int .u8 0) := fun j hj => by
        rw [u8s_get (by rw [zbytes_length]; exact hj)]; simp [zbytes, n8]
      by_cases hj : j < l.length
      · rw [if_pos hj, hz8 j hj]
        have := b3 j
        rw [if_pos (by simp; omega)] at this
        rw [Array.getElem?_toList, this, Nat.sub_zero]
        simp [hj]
      · rw [if_neg hj, List.getElem?_eq_none (by rw [u8s_length, zbytes_length]; omega)]
theorem St.touch {F : Nat → Prop} {B : Nat} {w0 w w' : World} {g : Nat} {fb : Option Nat} {l : List (BitVec 8)} {size dur : Nat} {vs : List (Value × List (BitVec 8))} (h : St B w0 w g fb l size dur vs) (hc : Chg F w w') (hF : ∀ k, F k → B ≤ k ∧ ¬ foot g fb k)
    (vs' : List (Value × List (BitVec 8))) (hv : ∀ p ∈ vs', p ∈ vs ∧ ∀ k, p.1.ownBlock = some k → ¬ F k) : St B w0 w' g fb l size dur vs' := by
  refine ⟨h.img.chg hc (fun k hk e => (hF k e).2 hk), h.base, ?_, Nat.le_trans h.big hc.size, fun p hp => ?_⟩
  · exact h.bel.trans ⟨hc.os, hc.tape, hc.output, hc.size, fun k hk => hc.block k (by have := h.big; omega) (fun e => by have := (hF k e).1; omega)⟩
  · obtain ⟨h1, h2⟩ := hv p hp
    exact ⟨own_chg (h.held p h1).1 hc h2, (h.held p h1).2⟩
end Go.Proofs.Ytbblbeppiblndaa

/-
  What a law's walk is told of its arguments: each can be read as data; from that the cells, by the type's shape. No condition.
-/
import Derived.Test.YtalonikiljcpfaaDoorMem
import Derived.ProofKit
import Derived.Deep.Slices
import Derived.ChangeOld
namespace Go.Proofs.YtalonikiljcpfaaDoor
open Go.RowKit Go.ChangeShapes Go.WideShapes Go.Deep
set_option linter.unusedVariables false
/-- The cells of a value of type t can be read. -/
def Rd (P : Program) (w : World) (t : TypeId) (cs : List Value) : Prop :=
  ∃ (H : Type) (enc : TypeId × Value → H) (base : Nat) (spare : Nat → Bool) (held : Bool) (fuel : Nat) (x : DataW H × List MemPlace), DataW.trod enc P w base spare held fuel t cs = some x
/-- An argument. -/
def ArgIn (P : Program) (w : World) (t : TypeId) (v : Value) : Prop := Rd P w t v.cells.toList ∧ ∃ base, Value.okWide P w .any base t v
theorem ArgIn.mk {H : Type} {enc : TypeId × Value → H} {P : Program} {w : World} {b : Nat} {t : TypeId} {v : Value} {d : DataW H} {p : List MemPlace} {sp : Nat → Bool} {hd : Bool}
    (h : DataW.Trod enc P w b sp hd t v d p) (hv : ∃ base, Value.okWide P w .any base t v) : ArgIn P w t v := by
  obtain ⟨fuel, hf⟩ := h
  exact ⟨⟨H, enc, b, sp, hd, fuel, _, hf⟩, hv⟩
section
variable {P : Program} {w : World} {t e : TypeId} {cs : List Value} {v : Value}
theorem Rd.int {k : IntKind} (ht : P.underlying t = some (.int k)) (h : Rd P w t cs) : ∃ n, cs = [.int k n] ∧ (Lit.int k n).wf = true := by
  obtain ⟨H, enc, base, sp, hd, fuel, x, hx⟩ := h
  obtain ⟨n, h1, _, h2⟩ := DataW.trod_int ht hx
  exact ⟨n, h1, h2⟩
theorem Rd.bool (ht : P.underlying t = some .bool) (h : Rd P w t cs) : ∃ b, cs = [.bool b] := by
  obtain ⟨H, enc, base, sp, hd, fuel, x, hx⟩ := h
  obtain ⟨b, h1, _⟩ := DataW.trod_bool ht hx
  exact ⟨b, h1⟩
theorem Rd.struct {fs : Array Field} (ht : P.underlying t = some (.struct fs)) (h : Rd P w t cs) :
    cs.length = P.cellsOf t ∧ ∀ (i : Nat) (f : Field), fs[i]? = some f → Rd P w f.type ((cs.drop f.offset).take (P.cellsOf f.type)) := by
  obtain ⟨H, enc, base, sp, hd, fuel, x, hx⟩ := h
  obtain ⟨xs, n, _, _, h1, h2, h3⟩ := DataW.trod_struct ht hx
  refine ⟨h1, fun i f hf => ?_⟩
  have hi : i < fs.size := (Array.getElem?_eq_some_iff.1 hf).1
  have h4 := h3 i f hf
  rw [List.getElem?_eq_getElem (by omega : i < xs.length)] at h4
  exact ⟨H, enc, base, sp, hd, n, _, h4⟩
theorem Rd.slice (ht : P.underlying t = some (.slice e)) (hsz : 0 < P.cellsOf e) (h : Rd P w t cs) :
    ∃ (A : Option Addr) (n c : Nat) (xs : List Value), cs = [.slice A n c] ∧ n ≤ c ∧ c ≤ maxLen ∧ Reads w w.heap.size (P.cellsOf e) A n xs ∧
      ∀ i, i < n → Rd P w e ((xs.drop (i * P.cellsOf e)).take (P.cellsOf e)) := by
  obtain ⟨H, enc, base, sp, hd, fuel, x, hx⟩ := h
  rcases open_slice ht hx with ⟨rfl, _⟩ | ⟨a, len, cap, m, n, D, Pl, rfl, hb, hl, hm, hmm, _, hi⟩
  · exact ⟨none, 0, 0, [], rfl, Nat.le_refl _, Nat.zero_le _, ⟨by simp, fun h => absurd h (by omega)⟩, fun i h => absurd h (by omega)⟩
  · have hlm : len ≤ m := by rw [hmm]; split <;> omega
    generalize hs : P.cellsOf e = s at *
    -- the cells, element by element
    have build : ∀ k, k ≤ len → ∃ xs : List Value, xs.length = k * s ∧ (∀ j u, xs[j]? = some u → w.cell? (a.add j) = some u) ∧ ∀ i, i < k → Rd P w e ((xs.drop (i * s)).take s) := by
      intro k
      induction k with
      | zero => intro _; exact ⟨[], by simp, by simp, fun i h => absurd h (by omega)⟩
      | succ k ih =>
        intro hk
        obtain ⟨xs, h1, h2, h3⟩ := ih (by omega)
        obtain ⟨cs', hc, ht'⟩ := hi k (by omega)
        obtain ⟨hcl, _, hat⟩ : cs'.length = s ∧ True ∧ ∀ j, j < s → w.cell? ((a.add (k * s)).add j) = cs'[j]? := by
          obtain ⟨_, h5, h6⟩ := World.cells?_some hc
          exact ⟨h5, trivial, fun j hj => h6 j hj⟩
        refine ⟨xs ++ cs', by simp [h1, hcl, Nat.succ_mul], fun j u hu => ?_, fun i hik => ?_⟩
        · by_cases hj : j < k * s
          · rw [List.getElem?_append_left (by omega)] at hu
            exact h2 j u hu
          · rw [List.getElem?_append_right (by omega), h1] at hu
            have hjs : j - k * s < s := by
              have := (List.getElem?_eq_some_iff.1 hu).1
              omega
            have h7 := hat (j - k * s) hjs
            rw [add_of_add, show k * s + (j - k * s) = j by omega] at h7
            rw [h7, hu]
        · by_cases hik' : i < k
          · have hle : i * s + s ≤ k * s := by
              have := Nat.mul_le_mul_right s (by omega : i + 1 ≤ k)
              rw [Nat.succ_mul] at this; exact this
            have h8 : ((xs ++ cs').drop (i * s)).take s = (xs.drop (i * s)).take s := by
              rw [List.drop_append_of_le_length (by omega), List.take_append_of_le_length (by rw [List.length_drop]; omega)]
            rw [h8]; exact h3 i hik'
          · have : i = k := by omega
            subst this
            have h8 : ((xs ++ cs').drop (i * s)).take s = cs' := by
              rw [← h1, List.drop_left, ← hcl, List.take_length]
            rw [h8]
            exact ⟨H, enc, base, sp, hd, n, _, ht'⟩
    obtain ⟨xs, h1, h2, h3⟩ := build len (Nat.le_refl _)
    refine ⟨some a, len, cap, xs, rfl, hl, hm, ⟨h1, fun hn => ⟨a, rfl, ?_, h2⟩⟩, h3⟩
    have hx0 : 0 < xs.length := by rw [h1]; exact Nat.mul_pos hn hsz
    have := block_lt_of_cell (h2 0 _ (List.getElem?_eq_getElem hx0))
    rwa [block_of_add] at this
theorem ArgIn.int {k : IntKind} (ht : P.underlying t = some (.int k)) (h : ArgIn P w t v) : ∃ n, v = .int k n ∧ (Lit.int k n).wf = true := by
  obtain ⟨h1, b, h2⟩ := h
  obtain ⟨n, rfl⟩ := okWide_int ht h2
  obtain ⟨m, h3, h4⟩ := h1.int ht
  have e : n = m := by
    have : [Value.int k n] = [Value.int k m] := h3
    injection this with h5 _
    injection h5
  subst e
  exact ⟨n, rfl, h4⟩
theorem ArgIn.bool (ht : P.underlying t = some .bool) (h : ArgIn P w t v) : ∃ b, v = .bool b := by
  obtain ⟨h1, b, h2⟩ := h
  obtain ⟨n, rfl⟩ := okWide_bool ht h2
  exact ⟨n, rfl⟩
theorem ArgIn.struct {fs : Array Field} (ht : P.underlying t = some (.struct fs)) (h : ArgIn P w t v) :
    ∃ cs : Array Value, v = .agg cs ∧ cs.toList.length = P.cellsOf t ∧ ∀ (i : Nat) (f : Field), fs[i]? = some f → Rd P w f.type ((cs.toList.drop f.offset).take (P.cellsOf f.type)) := by
  obtain ⟨h1, b, h2⟩ := h
  obtain ⟨cs, rfl, h3⟩ := okWide_struct ht h2
  obtain ⟨h4, h5⟩ := Rd.struct ht h1
  exact ⟨cs, rfl, h4, h5⟩
theorem ArgIn.slice (ht : P.underlying t = some (.slice e)) (hsz : 0 < P.cellsOf e) (h : ArgIn P w t v) :
    ∃ (A : Option Addr) (n c : Nat) (xs : List Value), v = .slice A n c ∧ n ≤ c ∧ c ≤ maxLen ∧ Reads w w.heap.size (P.cellsOf e) A n xs ∧
      ∀ i, i < n → Rd P w e ((xs.drop (i * P.cellsOf e)).take (P.cellsOf e)) := by
  obtain ⟨h1, b, h2⟩ := h
  obtain ⟨A, n, c, rfl⟩ := okWide_slice ht h2
  obtain ⟨A', n', c', xs, h3, h4⟩ := h1.slice ht hsz
  have : [Value.slice A n c] = [Value.slice A' n' c'] := h3
  injection this with h5 _
  injection h5 with h6 h7 h8
  subst h6 h7 h8
  exact ⟨A, n, c, xs, rfl, h4⟩
/-- A slice of integers. -/
theorem ArgIn.row {k : IntKind} (ht : P.underlying t = some (.slice e)) (he : P.underlying e = some (.int k)) (hc : P.cellsOf e = 1) (h : ArgIn P w t v) :
    ∃ (A : Option Addr) (n c : Nat) (zs : List Int), v = .slice A n c ∧ IsRow k w A n c zs := by
  obtain ⟨⟨H, enc, base, sp, hd, fuel, x, hx⟩, b, h2⟩ := h
  obtain ⟨A, n, c, rfl⟩ := okWide_slice ht h2
  rcases open_ints ht he hc hx with ⟨hcs, _⟩ | ⟨a, len, cap, zs, hcs, _, hl, hm, hz, _, hcell, hwz⟩
  · have : [Value.slice A n c] = [Value.slice none 0 0] := hcs
    injection this with h5 _
    injection h5 with h6 h7 h8
    subst h6 h7 h8
    exact ⟨none, 0, 0, [], rfl, .inl ⟨rfl, rfl, rfl, rfl⟩⟩
  · have : [Value.slice A n c] = [Value.slice (some a) len cap] := hcs
    injection this with h5 _
    injection h5 with h6 h7 h8
    subst h6 h7 h8
    exact ⟨some a, n, c, zs, rfl,   .inr ⟨a, rfl, hl, hm, by rw [hz]; split <;> omega, hcell, hwz⟩⟩
/-- One cell an element. -/
theorem Rd.elem {xs : List Value} {n i : Nat} (h1 : P.cellsOf e = 1) (hn : xs.length = n * P.cellsOf e) (hi : i < n) (h : Rd P w e ((xs.drop (i * P.cellsOf e)).take (P.cellsOf e))) :
    ∃ x, xs[i]? = some x ∧ Rd P w e [x] := by
  rw [h1, Nat.mul_one] at h hn
  rw [List.drop_eq_getElem_cons (by omega)] at h
  exact ⟨xs[i], List.getElem?_eq_getElem (by omega), h⟩
end
end Go.Proofs.YtalonikiljcpfaaDoor

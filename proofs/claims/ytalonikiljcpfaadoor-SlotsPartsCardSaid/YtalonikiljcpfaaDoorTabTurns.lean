/-
  The turns of the slots laws as an argument. Condition: they can be read.
-/
import Derived.Test.YtalonikiljcpfaaDoorTabDo
namespace Go.Proofs.YtalonikiljcpfaaDoor
open Go.RowKit
set_option linter.unusedVariables false
structure Turn2 where
  a : BitVec 8
  s : BitVec 8
structure TurnAt (w : World) (B : Nat) (A : Option Addr) (i : Nat) (ad : Addr) (t : Turn2) : Prop where
  a : A = some ad
  lt : ad.block < B
  c0 : w.cell? (ad.add (i * 2)) = some (.int .u8 (n8 t.a))
  c1 : w.cell? ⟨(ad.add (i * 2)).block, (ad.add (i * 2)).off + 1, none⟩ = some (.int .u8 (n8 t.s))
def TurnsAt (w : World) (B : Nat) (A : Option Addr) (n : Nat) (ts : Nat → Turn2) : Prop := ∀ i, i < n → ∃ ad, TurnAt w B A i ad (ts i)
theorem TurnsAt.below {w w' : World} {A : Option Addr} {n : Nat} {ts : Nat → Turn2} {B : Nat} (h : TurnsAt w B A n ts) (hb : Below B w w') : TurnsAt w' B A n ts := fun i hi => by
  obtain ⟨ad, h⟩ := h i hi
  have key : ∀ p : Addr, p.block = ad.block → w'.cell? p = w.cell? p := fun p hp => hb.cell (by rw [hp]; exact h.lt)
  exact ⟨ad, h.a, h.lt, (key _ (block_of_add _ _)).trans h.c0, (key ⟨(ad.add (i * 2)).block, _, none⟩ (block_of_add ad (i * 2))).trans h.c1⟩
theorem turn_of_rd {w : World} {cs : List Value} (hl : cs.length = Tryd.prog.cellsOf 33)
    (hf : ∀ (i : Nat) (f : Field), (match Tryd.prog.underlying 33 with | some (.struct fs) => fs[i]? | _ => none) = some f → Rd Tryd.prog w f.type ((cs.drop f.offset).take (Tryd.prog.cellsOf f.type))) :
    ∃ t : Turn2, cs = [Value.int .u8 (n8 t.a), .int .u8 (n8 t.s)] := by
  have hC : Tryd.prog.cellsOf 33 = 2 := by kernel_rfl
  have hC1 : Tryd.prog.cellsOf 5 = 1 := by kernel_rfl
  rw [hC] at hl
  obtain ⟨x0, x1, rfl⟩ : ∃ a b, cs = [a, b] := by
    match cs, hl with
    | [a, b], _ => exact ⟨a, b, rfl⟩
  rw [Tryd.underlying33] at hf
  have g0 : Rd Tryd.prog w 5 [x0] := by simpa [hC1] using hf 0 _ rfl
  have g1 : Rd Tryd.prog w 5 [x1] := by simpa [hC1] using hf 1 _ rfl
  obtain ⟨y0, e0, w0⟩ := Rd.int (k := .u8) Tryd.underlying5 g0
  obtain ⟨y1, e1, w1⟩ := Rd.int (k := .u8) Tryd.underlying5 g1
  obtain ⟨b0, rfl⟩ := u8_of_wf w0
  obtain ⟨b1, rfl⟩ := u8_of_wf w1
  refine ⟨⟨b0, b1⟩, ?_⟩
  have e0' : x0 = .int .u8 (n8 b0) := by simpa using e0
  have e1' : x1 = .int .u8 (n8 b1) := by simpa using e1
  subst e0' e1'
  rfl
theorem turns_arg {w : World} {v : Value} (h : ArgIn Tryd.prog w 22 v) : ∃ A n c ts, v = .slice A n c ∧ n ≤ c ∧ c ≤ maxLen ∧ TurnsAt w w.heap.size A n ts := by
  obtain ⟨A, n, c, xs, rfl, h1, h2, h3, h4⟩ := h.slice (e := 33) rfl (by decide +kernel)
  have hC : Tryd.prog.cellsOf 33 = 2 := by kernel_rfl
  have hC1 : Tryd.prog.cellsOf 5 = 1 := by kernel_rfl
  have key : ∀ i, ∃ t : Turn2, i < n → ∃ ad, TurnAt w w.heap.size A i ad t := fun i => by
    by_cases hi : i < n
    · obtain ⟨hl, hf⟩ := Rd.struct Tryd.underlying33 (h4 i hi)
      obtain ⟨t, e⟩ := turn_of_rd hl (fun i f hf' => by rw [Tryd.underlying33] at hf'; exact hf i f hf')
      rw [hC] at h3 e
      obtain ⟨ad, ea, hbk, hc⟩ := h3.2 (by omega)
      have at_ : ∀ q v, [Value.int .u8 (n8 t.a), .int .u8 (n8 t.s)][q]? = some v → q < 2 → w.cell? ((ad.add (i * 2)).add q) = some v := by
        intro q v hq hq3
        rw [← e, List.getElem?_take, if_pos hq3, List.getElem?_drop] at hq
        rw [add_of_add]
        exact hc _ _ hq
      refine ⟨t, fun _ => ⟨ad, ea, hbk, ?_, ?_⟩⟩
      · have := at_ 0 _ rfl (by omega); rw [add_of_add, Nat.add_zero] at this; exact this
      · exact at_ 1 _ rfl (by omega)
    · exact ⟨⟨0, 0⟩, fun h => absurd h hi⟩
  exact ⟨A, n, c, fun i => (key i).choose, rfl, h1, h2, fun i hi => (key i).choose_spec hi⟩
end Go.Proofs.YtalonikiljcpfaaDoor

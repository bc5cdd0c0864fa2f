/-
  The turns of the disk laws as an argument. Condition: they can be read.
-/
import Derived.Test.YtelobbigpgfobaaKbegin
import Derived.Test.YtelobbigpgfobaaKagree
import Derived.Test.YtelobbigpgfobaaDworks
import Derived.Test.YtelobbigpgfobaaDstep
namespace Go.Proofs.Ytelobbigpgfobaa
open Go.RowKit
set_option linter.unusedVariables false
structure Turn4 where
  a : BitVec 8
  s : BitVec 8
  b : BitVec 8
  c : BitVec 8
structure TurnAt (w : World) (B : Nat) (A : Option Addr) (i : Nat) (ad : Addr) (t : Turn4) : Prop where
  a : A = some ad
  lt : ad.block < B
  c0 : w.cell? (ad.add (i * 4)) = some (.int .u8 (n8 t.a))
  c1 : w.cell? ⟨(ad.add (i * 4)).block, (ad.add (i * 4)).off + 1, none⟩ = some (.int .u8 (n8 t.s))
  c2 : w.cell? ⟨(ad.add (i * 4)).block, (ad.add (i * 4)).off + 2, none⟩ = some (.int .u8 (n8 t.b))
  c3 : w.cell? ⟨(ad.add (i * 4)).block, (ad.add (i * 4)).off + 3, none⟩ = some (.int .u8 (n8 t.c))
def TurnsAt (w : World) (B : Nat) (A : Option Addr) (n : Nat) (ts : Nat → Turn4) : Prop := ∀ i, i < n → ∃ ad, TurnAt w B A i ad (ts i)
theorem TurnsAt.below {w w' : World} {A : Option Addr} {n : Nat} {ts : Nat → Turn4} {B : Nat} (h : TurnsAt w B A n ts) (hb : Below B w w') : TurnsAt w' B A n ts := fun i hi => by
  obtain ⟨ad, h⟩ := h i hi
  have key : ∀ p : Addr, p.block = ad.block → w'.cell? p = w.cell? p := fun p hp => hb.cell (by rw [hp]; exact h.lt)
  exact ⟨ad, h.a, h.lt, (key _ (block_of_add _ _)).trans h.c0, (key ⟨(ad.add (i * 4)).block, _, none⟩ (block_of_add ad (i * 4))).trans h.c1, (key ⟨(ad.add (i * 4)).block, _, none⟩ (block_of_add ad (i * 4))).trans h.c2, (key ⟨(ad.add (i * 4)).block, _, none⟩ (block_of_add ad (i * 4))).trans h.c3⟩
theorem turn_of_rd {w : World} {cs : List Value} (hl : cs.length = Try.prog.cellsOf 28)
    (hf : ∀ (i : Nat) (f : Field), (match Try.prog.underlying 28 with | some (.struct fs) => fs[i]? | _ => none) = some f → Rd Try.prog w f.type ((cs.drop f.offset).take (Try.prog.cellsOf f.type))) :
    ∃ t : Turn4, cs = [Value.int .u8 (n8 t.a), .int .u8 (n8 t.s), .int .u8 (n8 t.b), .int .u8 (n8 t.c)] := by
  have hC : Try.prog.cellsOf 28 = 4 := by kernel_rfl
  have hC1 : Try.prog.cellsOf 5 = 1 := by kernel_rfl
  rw [hC] at hl
  obtain ⟨x0, x1, x2, x3, rfl⟩ : ∃ a b c d, cs = [a, b, c, d] := by
    match cs, hl with
    | [a, b, c, d], _ => exact ⟨a, b, c, d, rfl⟩
  rw [Try.underlying28] at hf
  have g0 : Rd Try.prog w 5 [x0] := by simpa [hC1] using hf 0 _ rfl
  have g1 : Rd Try.prog w 5 [x1] := by simpa [hC1] using hf 1 _ rfl
  have g2 : Rd Try.prog w 5 [x2] := by simpa [hC1] using hf 2 _ rfl
  have g3 : Rd Try.prog w 5 [x3] := by simpa [hC1] using hf 3 _ rfl
  obtain ⟨y0, e0, w0⟩ := Rd.int (k := .u8) Try.underlying5 g0
  obtain ⟨y1, e1, w1⟩ := Rd.int (k := .u8) Try.underlying5 g1
  obtain ⟨y2, e2, w2⟩ := Rd.int (k := .u8) Try.underlying5 g2
  obtain ⟨y3, e3, w3⟩ := Rd.int (k := .u8) Try.underlying5 g3
  obtain ⟨b0, rfl⟩ := u8_of_wf w0
  obtain ⟨b1, rfl⟩ := u8_of_wf w1
  obtain ⟨b2, rfl⟩ := u8_of_wf w2
  obtain ⟨b3, rfl⟩ := u8_of_wf w3
  refine ⟨⟨b0, b1, b2, b3⟩, ?_⟩
  have e0' : x0 = .int .u8 (n8 b0) := by simpa using e0
  have e1' : x1 = .int .u8 (n8 b1) := by simpa using e1
  have e2' : x2 = .int .u8 (n8 b2) := by simpa using e2
  have e3' : x3 = .int .u8 (n8 b3) := by simpa using e3
  subst e0' e1' e2' e3'
  rfl
theorem turns_arg {w : World} {v : Value} (h : ArgIn Try.prog w 22 v) : ∃ A n c ts, v = .slice A n c ∧ n ≤ c ∧ c ≤ maxLen ∧ TurnsAt w w.heap.size A n ts := by
  obtain ⟨A, n, c, xs, rfl, h1, h2, h3, h4⟩ := h.slice (e := 28) rfl (by decide +kernel)
  have hC : Try.prog.cellsOf 28 = 4 := by kernel_rfl
  have hC1 : Try.prog.cellsOf 5 = 1 := by kernel_rfl
  have key : ∀ i, ∃ t : Turn4, i < n → ∃ ad, TurnAt w w.heap.size A i ad t := fun i => by
    by_cases hi : i < n
    · obtain ⟨hl, hf⟩ := Rd.struct Try.underlying28 (h4 i hi)
      obtain ⟨t, e⟩ := turn_of_rd hl (fun i f hf' => by rw [Try.underlying28] at hf'; exact hf i f hf')
      rw [hC] at h3 e
      obtain ⟨ad, ea, hbk, hc⟩ := h3.2 (by omega)
      have at_ : ∀ q v, [Value.int .u8 (n8 t.a), .int .u8 (n8 t.s), .int .u8 (n8 t.b), .int .u8 (n8 t.c)][q]? = some v → q < 4 → w.cell? ((ad.add (i * 4)).add q) = some v := by
        intro q v hq hq3
        rw [← e, List.getElem?_take, if_pos hq3, List.getElem?_drop] at hq
        rw [add_of_add]
        exact hc _ _ hq
      refine ⟨t, fun _ => ⟨ad, ea, hbk, ?_, ?_, ?_, ?_⟩⟩
      · have := at_ 0 _ rfl (by omega); rw [add_of_add, Nat.add_zero] at this; exact this
      · exact at_ 1 _ rfl (by omega)
      · exact at_ 2 _ rfl (by omega)
      · exact at_ 3 _ rfl (by omega)
    · exact ⟨⟨0, 0, 0, 0⟩, fun h => absurd h hi⟩
  exact ⟨A, n, c, fun i => (key i).choose, rfl, h1, h2, fun i hi => (key i).choose_spec hi⟩
end Go.Proofs.Ytelobbigpgfobaa

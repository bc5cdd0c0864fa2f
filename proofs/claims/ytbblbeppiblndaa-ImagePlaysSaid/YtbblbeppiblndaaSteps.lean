/-
  A slice of the image law's steps, as data. Condition: it can be read.
-/
import Derived.Test.YtbblbeppiblndaaImgSep
import Derived.Test.YtbblbeppiblndaaImgFill
namespace Go.Proofs.Ytbblbeppiblndaa
open Go.RowKit
set_option linter.unusedVariables false
structure StepAt (w : World) (B : Nat) (A : Option Addr) (i : Nat) (ad : Addr) (d : Int) (v : Value) (b : List (BitVec 8)) (n : Int) : Prop where
  a : A = some ad
  lt : ad.block < B
  c0 : w.cell? (ad.add (i * 3)) = some (.int .i64 d)
  c1 : w.cell? ⟨(ad.add (i * 3)).block, (ad.add (i * 3)).off + 1, none⟩ = some v
  c2 : w.cell? ⟨(ad.add (i * 3)).block, (ad.add (i * 3)).off + 2, none⟩ = some (.int .i64 n)
  n0 : -9223372036854775808 ≤ n
  n1 : n ≤ 9223372036854775807
  hv : Holds w v b
def StepsAt (w : World) (B : Nat) (A : Option Addr) (n : Nat) : Prop := ∀ i, i < n → ∃ ad d v b m, StepAt w B A i ad d v b m
theorem StepAt.below {w w' : World} {A : Option Addr} {i : Nat} {ad : Addr} {d : Int} {v : Value} {b : List (BitVec 8)} {n : Int} (h : StepAt w w.heap.size A i ad d v b n) (hb : Below w.heap.size w w') : StepAt w' w.heap.size A i ad d v b n :=
  ⟨h.a, h.lt, by rw [hb.cell (by rw [block_of_add]; exact h.lt)]; exact h.c0, by rw [hb.cell (by show (ad.add (i * 3)).block < _; rw [block_of_add]; exact h.lt)]; exact h.c1, by rw [hb.cell (by show (ad.add (i * 3)).block < _; rw [block_of_add]; exact h.lt)]; exact h.c2, h.n0, h.n1, h.hv.below hb⟩
theorem bytes_of_rd {w : World} {n c : Nat} {A : Option Addr} {xs : List Value} (h1 : n ≤ c) (h2 : c ≤ maxLen) (hr : Reads w w.heap.size 1 A n xs) (hd : ∀ i, i < n → Rd Try.prog w 5 ((xs.drop (i * 1)).take 1)) :
    ∃ l, Holds w (.slice A n c) l := by
  have hl : xs.length = n := by have := hr.1; omega
  obtain ⟨l, rfl⟩ := bytes_of_all xs (fun k hk => by
    have h := hd k (by omega)
    rw [Nat.mul_one, List.drop_eq_getElem_cons hk] at h
    obtain ⟨m, e, hw⟩ := Rd.int (k := .u8) Try.underlying5 h
    obtain ⟨b, rfl⟩ := u8_of_wf hw
    refine ⟨b, ?_⟩
    have e2 : [xs[k]] = [Value.int .u8 (n8 b)] := e
    have e' : xs[k] = .int .u8 (n8 b) := by injection e2
    rw [List.getElem?_eq_getElem hk, e'])
  rw [u8s_length] at hl
  exact ⟨l, A, n, c, rfl, hl.symm, h1, h2, hr⟩
theorem steps_arg {w : World} {v : Value} (h : ArgIn Try.prog w 43 v) : ∃ A n c, v = .slice A n c ∧ n ≤ c ∧ c ≤ maxLen ∧ StepsAt w w.heap.size A n := by
  obtain ⟨A, n, c, xs, rfl, h1, h2, h3, h4⟩ := h.slice (e := 45) rfl (by decide +kernel)
  refine ⟨A, n, c, rfl, h1, h2, fun i hi => ?_⟩
  have hC : Try.prog.cellsOf 45 = 3 := by kernel_rfl
  have hC1 : Try.prog.cellsOf 3 = 1 := by kernel_rfl
  have hC2 : Try.prog.cellsOf 25 = 1 := by kernel_rfl
  have hC3 : Try.prog.cellsOf 5 = 1 := by kernel_rfl
  rw [hC] at h3 h4
  obtain ⟨hl, hf⟩ := Rd.struct Try.underlying45 (h4 i hi)
  rw [hC] at hl
  obtain ⟨cs, hcs⟩ : ∃ cs, cs = (xs.drop (i * 3)).take 3 := ⟨_, rfl⟩
  rw [← hcs] at hl hf
  obtain ⟨x0, x1, x2, hx⟩ : ∃ a b c, cs = [a, b, c] := by
    match cs, hl with
    | [a, b, c], _ => exact ⟨a, b, c, rfl⟩
  rw [hx] at hf
  have g0 : Rd Try.prog w 3 [x0] := by simpa [hC1] using hf 0 _ rfl
  have g1 : Rd Try.prog w 25 [x1] := by simpa [hC2] using hf 1 _ rfl
  have g2 : Rd Try.prog w 3 [x2] := by simpa [hC1] using hf 2 _ rfl
  obtain ⟨d, e0, w0⟩ := Rd.int (k := .i64) Try.underlying3 g0
  obtain ⟨m, e2, w2⟩ := Rd.int (k := .i64) Try.underlying3 g2
  obtain ⟨A1, n1, c1, ys, e1, y1, y2, y3, y4⟩ := g1.slice (e := 5) Try.underlying25 (by rw [hC3]; omega)
  rw [hC3] at y3 y4
  obtain ⟨b, hb⟩ := bytes_of_rd y1 y2 y3 y4
  obtain ⟨ad, e, hbk, hc⟩ := h3.2 (by omega)
  have e0' : x0 = .int .i64 d := by simpa using e0
  have e1' : x1 = .slice A1 n1 c1 := by simpa using e1
  have e2' : x2 = .int .i64 m := by simpa using e2
  have at_ : ∀ q v, cs[q]? = some v → q < 3 → w.cell? ((ad.add (i * 3)).add q) = some v := by
    intro q v hq hq3
    rw [hcs, List.getElem?_take, if_pos hq3, List.getElem?_drop] at hq
    rw [add_of_add]
    exact hc _ _ hq
  rw [hx] at at_
  obtain ⟨b0, b1⟩ := i64_of_wf w2
  refine ⟨ad, d, _, b, m, e, hbk, ?_, ?_, ?_, b0, b1, hb⟩
  · have := at_ 0 _ rfl (by omega); rw [e0', add_of_add, Nat.add_zero] at this; exact this
  · have := at_ 1 _ rfl (by omega); rw [e1'] at this; exact this
  · have := at_ 2 _ rfl (by omega); rw [e2'] at this; exact this
end Go.Proofs.Ytbblbeppiblndaa

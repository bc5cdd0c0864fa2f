/-
  The disk laws' steps as data, and short. Condition: they can be read.
-/
import Derived.Test.YtelobbigpgfobaaDint
namespace Go.Proofs.Ytelobbigpgfobaa
open Go.RowKit
set_option linter.unusedVariables false
/-- A value that holds numbers. -/
def HoldsI (w : World) (v : Value) (zs : List Int) : Prop := (∃ A n c, v = .slice A n c ∧ n = zs.length ∧ n ≤ c ∧ c ≤ maxLen ∧ Reads w w.heap.size 1 A n (ints zs)) ∧ ∀ z ∈ zs, -9223372036854775808 ≤ z ∧ z ≤ 9223372036854775807
theorem HoldsI.below {w w' : World} {v : Value} {zs : List Int} (h : HoldsI w v zs) (hb : Below w.heap.size w w') : HoldsI w' v zs := by
  obtain ⟨⟨A, n, c, rfl, h0, h1, h2, h3⟩, h4⟩ := h
  exact ⟨⟨A, n, c, rfl, h0, h1, h2, (h3.below hb).more hb.size⟩, h4⟩
structure DStep where
  what : Int
  slot : Int
  off : Int
  n : Int
  b : List (BitVec 8)
  keep : List Int
structure DStep.Ok (w : World) (st : DStep) (v4 v5 : Value) : Prop where
  hv : Holds w v4 st.b
  hk : HoldsI w v5 st.keep
def DStep.cells (st : DStep) (v4 v5 : Value) : Array Value := #[.int .i64 st.what, .int .i64 st.slot, .int .i64 st.off, .int .i64 st.n, v4, v5]
structure StepAt (w : World) (B : Nat) (A : Option Addr) (i : Nat) (ad : Addr) (st : DStep) (v4 v5 : Value) : Prop where
  a : A = some ad
  lt : ad.block < B
  c0 : w.cell? (ad.add (i * 6)) = some (.int .i64 st.what)
  c1 : w.cell? ⟨(ad.add (i * 6)).block, (ad.add (i * 6)).off + 1, none⟩ = some (.int .i64 st.slot)
  c2 : w.cell? ⟨(ad.add (i * 6)).block, (ad.add (i * 6)).off + 2, none⟩ = some (.int .i64 st.off)
  c3 : w.cell? ⟨(ad.add (i * 6)).block, (ad.add (i * 6)).off + 3, none⟩ = some (.int .i64 st.n)
  c4 : w.cell? ⟨(ad.add (i * 6)).block, (ad.add (i * 6)).off + 4, none⟩ = some v4
  c5 : w.cell? ⟨(ad.add (i * 6)).block, (ad.add (i * 6)).off + 5, none⟩ = some v5
  ok : st.Ok w v4 v5
def StepsAt (w : World) (B : Nat) (A : Option Addr) (n : Nat) (sts : Nat → DStep) : Prop := ∀ i, i < n → ∃ ad v4 v5, StepAt w B A i ad (sts i) v4 v5
theorem StepAt.below {w w' : World} {A : Option Addr} {i : Nat} {ad : Addr} {st : DStep} {v4 v5 : Value} (h : StepAt w w.heap.size A i ad st v4 v5) (hb : Below w.heap.size w w') : StepAt w' w.heap.size A i ad st v4 v5 := by
  have key : ∀ p : Addr, p.block = ad.block → w'.cell? p = w.cell? p := fun p hp => hb.cell (by rw [hp]; exact h.lt)
  exact ⟨h.a, h.lt, (key _ (block_of_add _ _)).trans h.c0, (key ⟨(ad.add (i * 6)).block, _, none⟩ (block_of_add ad (i * 6))).trans h.c1, (key ⟨(ad.add (i * 6)).block, _, none⟩ (block_of_add ad (i * 6))).trans h.c2, (key ⟨(ad.add (i * 6)).block, _, none⟩ (block_of_add ad (i * 6))).trans h.c3, (key ⟨(ad.add (i * 6)).block, _, none⟩ (block_of_add ad (i * 6))).trans h.c4, (key ⟨(ad.add (i * 6)).block, _, none⟩ (block_of_add ad (i * 6))).trans h.c5, ⟨h.ok.hv.below hb, h.ok.hk.below hb⟩⟩
theorem bytes_of_rd {w : World} {n c : Nat} {A : Option Addr} {xs : List Value} (h1 : n ≤ c) (h2 : c ≤ maxLen) (hr : Reads w w.heap.size 1 A n xs) (hd : ∀ i, i < n → Rd Try.prog w 5 ((xs.drop (i * 1)).take 1)) :
    ∃ l, Holds w (.slice A n c) l := by
  have hl : xs.length = n := by have := hr.1; omega
  obtain ⟨l, rfl⟩ := bytes_of_all xs (fun k hk => by
    have h := hd k (by omega)
    rw [Nat.mul_one, List.drop_eq_getElem_cons hk] at h
    obtain ⟨m, e, hw⟩ := Rd.int (k := .u8) Try.underlying5 h
    obtain ⟨b, rfl⟩ := u8_of_wf hw
    refine ⟨b, ?_⟩
    have e2 : [xs[k]] = [Value.int .u8 (n8 b)] := e
    have e' : xs[k] = .int .u8 (n8 b) := by injection e2
    rw [List.getElem?_eq_getElem hk, e'])
  rw [u8s_length] at hl
  exact ⟨l, A, n, c, rfl, hl.symm, h1, h2, hr⟩
theorem ints_of_all : ∀ zs : List Value, (∀ k, k < zs.length → ∃ b : Int, (-9223372036854775808 ≤ b ∧ b ≤ 9223372036854775807) ∧ zs[k]? = some (.int .i64 b)) → ∃ l : List Int, zs = ints l ∧ ∀ z ∈ l, -9223372036854775808 ≤ z ∧ z ≤ 9223372036854775807 := by
  intro zs
  induction zs with
  | nil => intro _; exact ⟨[], rfl, fun z hz => by cases hz⟩
  | cons z zs ih =>
    intro h
    obtain ⟨b, hbb, hb⟩ := h 0 (by simp)
    obtain ⟨l, rfl, hl⟩ := ih (fun k hk => by simpa using h (k + 1) (by simpa using hk))
    have : z = .int .i64 b := by simpa using hb
    subst this
    exact ⟨b :: l, rfl, fun z hz => by
      rcases List.mem_cons.1 hz with rfl | hz
      · exact hbb
      · exact hl z hz⟩
theorem ints_of_rd {w : World} {n c : Nat} {A : Option Addr} {xs : List Value} (h1 : n ≤ c) (h2 : c ≤ maxLen) (hr : Reads w w.heap.size 1 A n xs) (hd : ∀ i, i < n → Rd Try.prog w 3 ((xs.drop (i * 1)).take 1)) :
    ∃ l, HoldsI w (.slice A n c) l := by
  have hl : xs.length = n := by have := hr.1; omega
  obtain ⟨l, rfl, hall⟩ := ints_of_all xs (fun k hk => by
    have h := hd k (by omega)
    rw [Nat.mul_one, List.drop_eq_getElem_cons hk] at h
    obtain ⟨m, e, hw⟩ := Rd.int (k := .i64) Try.underlying3 h
    refine ⟨m, i64_of_wf hw, ?_⟩
    have e2 : [xs[k]] = [Value.int .i64 m] := e
    have e' : xs[k] = .int .i64 m := by injection e2
    rw [List.getElem?_eq_getElem hk, e'])
  rw [ints_length] at hl
  exact ⟨l, ⟨A, n, c, rfl, hl.symm, h1, h2, hr⟩, hall⟩
/-- A step's cells, out of what can be read. -/
theorem step_of_rd {w : World} {cs : List Value} (hl : cs.length = Try.prog.cellsOf 56)
    (hf : ∀ (i : Nat) (f : Field), (match Try.prog.underlying 56 with | some (.struct fs) => fs[i]? | _ => none) = some f → Rd Try.prog w f.type ((cs.drop f.offset).take (Try.prog.cellsOf f.type))) :
    ∃ (st : DStep) (v4 v5 : Value), cs = (st.cells v4 v5).toList ∧ st.Ok w v4 v5 := by
  have hC : Try.prog.cellsOf 56 = 6 := by kernel_rfl
  have hC1 : Try.prog.cellsOf 3 = 1 := by kernel_rfl
  have hC2 : Try.prog.cellsOf 36 = 1 := by kernel_rfl
  have hC3 : Try.prog.cellsOf 5 = 1 := by kernel_rfl
  have hC4 : Try.prog.cellsOf 32 = 1 := by kernel_rfl
  rw [hC] at hl
  obtain ⟨x0, x1, x2, x3, x4, x5, rfl⟩ : ∃ a b c d e f, cs = [a, b, c, d, e, f] := by
    match cs, hl with
    | [a, b, c, d, e, f], _ => exact ⟨a, b, c, d, e, f, rfl⟩
  rw [Try.underlying56] at hf
  have g0 : Rd Try.prog w 3 [x0] := by simpa [hC1] using hf 0 _ rfl
  have g1 : Rd Try.prog w 3 [x1] := by simpa [hC1] using hf 1 _ rfl
  have g2 : Rd Try.prog w 3 [x2] := by simpa [hC1] using hf 2 _ rfl
  have g3 : Rd Try.prog w 3 [x3] := by simpa [hC1] using hf 3 _ rfl
  have g4 : Rd Try.prog w 36 [x4] := by simpa [hC2] using hf 4 _ rfl
  have g5 : Rd Try.prog w 32 [x5] := by simpa [hC4] using hf 5 _ rfl
  obtain ⟨d0, e0, _⟩ := Rd.int (k := .i64) Try.underlying3 g0
  obtain ⟨d1, e1, _⟩ := Rd.int (k := .i64) Try.underlying3 g1
  obtain ⟨d2, e2, _⟩ := Rd.int (k := .i64) Try.underlying3 g2
  obtain ⟨d3, e3, _⟩ := Rd.int (k := .i64) Try.underlying3 g3
  obtain ⟨A1, n1, c1, ys, e4, y1, y2, y3, y4⟩ := g4.slice (e := 5) Try.underlying36 (by rw [hC3]; omega)
  rw [hC3] at y3 y4
  obtain ⟨b, hb⟩ := bytes_of_rd y1 y2 y3 y4
  obtain ⟨A2, n2, c2, zs, e5, z1, z2, z3, z4⟩ := g5.slice (e := 3) Try.underlying32 (by rw [hC1]; omega)
  rw [hC1] at z3 z4
  obtain ⟨k, hk⟩ := ints_of_rd z1 z2 z3 z4
  have q0 : x0 = .int .i64 d0 := by simpa using e0
  have q1 : x1 = .int .i64 d1 := by simpa using e1
  have q2 : x2 = .int .i64 d2 := by simpa using e2
  have q3 : x3 = .int .i64 d3 := by simpa using e3
  have q4 : x4 = .slice A1 n1 c1 := by simpa using e4
  have q5 : x5 = .slice A2 n2 c2 := by simpa using e5
  subst q0 q1 q2 q3 q4 q5
  exact ⟨⟨d0, d1, d2, d3, b, k⟩, _, _, rfl, hb, hk⟩
theorem step_arg {w : World} {v : Value} (h : ArgIn Try.prog w 56 v) : ∃ (st : DStep) (v4 v5 : Value), v = .agg (st.cells v4 v5) ∧ st.Ok w v4 v5 := by
  obtain ⟨cs, rfl, h1, h2⟩ := h.struct Try.underlying56
  obtain ⟨st, v4, v5, e, ok⟩ := step_of_rd h1 (fun i f hf => by rw [Try.underlying56] at hf; exact h2 i f hf)
  exact ⟨st, v4, v5, by rw [← Array.toList_inj.1 e], ok⟩
theorem steps_arg {w : World} {v : Value} (h : ArgIn Try.prog w 50 v) : ∃ A n c sts, v = .slice A n c ∧ n ≤ c ∧ c ≤ maxLen ∧ StepsAt w w.heap.size A n sts := by
  obtain ⟨A, n, c, xs, rfl, h1, h2, h3, h4⟩ := h.slice (e := 56) rfl (by decide +kernel)
  have hC : Try.prog.cellsOf 56 = 6 := by kernel_rfl
  have key : ∀ i, ∃ st : DStep, i < n → ∃ ad v4 v5, StepAt w w.heap.size A i ad st v4 v5 := fun i => by
    by_cases hi : i < n
    · obtain ⟨hl, hf⟩ := Rd.struct Try.underlying56 (h4 i hi)
      obtain ⟨st, v4, v5, e, ok⟩ := step_of_rd hl (fun i f hf' => by rw [Try.underlying56] at hf'; exact hf i f hf')
      rw [hC] at h3 e
      obtain ⟨ad, ea, hbk, hc⟩ := h3.2 (by omega)
      have at_ : ∀ q v, (st.cells v4 v5).toList[q]? = some v → q < 6 → w.cell? ((ad.add (i * 6)).add q) = some v := by
        intro q v hq hq3
        rw [← e, List.getElem?_take, if_pos hq3, List.getElem?_drop] at hq
        rw [add_of_add]
        exact hc _ _ hq
      refine ⟨st, fun _ => ⟨ad, v4, v5, ea, hbk, ?_, ?_, ?_, ?_, ?_, ?_, ok⟩⟩
      · have := at_ 0 _ rfl (by omega); rw [add_of_add, Nat.add_zero] at this; exact this
      · exact at_ 1 _ rfl (by omega)
      · exact at_ 2 _ rfl (by omega)
      · exact at_ 3 _ rfl (by omega)
      · exact at_ 4 _ rfl (by omega)
      · exact at_ 5 _ rfl (by omega)
    · exact ⟨⟨0, 0, 0, 0, [], []⟩, fun h => absurd h hi⟩
  exact ⟨A, n, c, fun i => (key i).choose, rfl, h1, h2, fun i hi => (key i).choose_spec hi⟩
def shortS (st : DStep) : Prop := st.b.length ≤ 300 ∧ st.keep.length ≤ 40
def ShortQ (w : World) (n most : Nat) (sts : Nat → DStep) (e : Ending) (w' : World) : Prop := ∃ r, e = .returned (.bool r) ∧ (r = true → n ≤ most ∧ ∀ i, i < n → shortS (sts i)) ∧ w = w'
set_option maxHeartbeats 1000000 in
theorem short_any (A : Option Addr) (n c : Nat) (sts : Nat → DStep) (most : Nat) (w : World) (h : StepsAt w w.heap.size A n sts) (hn : n ≤ c) (hc : c ≤ maxLen) :
    Calls Try.prog 23 #[.slice A n c, .int .i64 (most : Int)] w (ShortQ w n most sts) := by
  have H := Lib.hid h
  unfold maxLen at hc
  clear h
  by_cases hm : most < n
  · go_enter Try.func23, Try.ntmps23
    go_wp2_with fail
    go_ret
    exact ⟨false, rfl, (fun h => by cases h), rfl⟩
  · go_enter Try.func23, Try.ntmps23
    go_wp2_with fail
    go_loopg [5] n (fun q v5 wr => ∃ (j : Nat), j + q = n ∧ v5 = .int .i64 j ∧ (∀ i, i < j → shortS (sts i)) ∧ w = wr)
    case atStart => exact ⟨0, by omega, rfl, fun i hi => by omega, rfl⟩
    case round =>
      obtain ⟨j, hj, rfl, hp, rfl⟩ := hrel
      have HJ := Lib.hid hj
      have HP := Lib.hid hp
      have hj' : j ≤ n := by omega
      by_cases hlt : j < n
      · obtain ⟨ad, v4, v5, hst⟩ := H.out j hlt
        obtain ⟨A4, n4, c4, rfl, e4, h41, h42, _⟩ := hst.ok.hv
        obtain ⟨⟨A5, n5, c5, rfl, e5, h51, h52, _⟩, _⟩ := hst.ok.hk
        have k4 := hst.c4
        have k5 := hst.c5
        obtain rfl := hst.a
        have HE4 := Lib.hid e4
        have HE5 := Lib.hid e5
        unfold maxLen at h42 h52
        clear hst hj hp e4 e5
        by_cases b4 : 300 < n4
        · go_wp2_with fail
          go_ret
          exact ⟨false, rfl, (fun h => by cases h), rfl⟩
        · by_cases b5 : 40 < n5
          · go_wp2_with fail
            go_ret
            exact ⟨false, rfl, (fun h => by cases h), rfl⟩
          · go_wp2_with fail
            go_roundg (gk - 1)
            case measure => have := HJ.out; omega
            case rel =>
              refine ⟨j + 1, by have := HJ.out; omega, by go_num, fun i hi => ?_, rfl⟩
              by_cases e : i = j
              · subst e
                exact ⟨by have := HE4.out; omega, by have := HE5.out; omega⟩
              · exact HP.out i (by omega)
      · have e8 : j = n := by omega
        subst e8
        clear hj
        go_wp2_with fail
        go_ret
        exact ⟨true, rfl, fun _ => ⟨by omega, HP.out⟩, rfl⟩
end Go.Proofs.Ytelobbigpgfobaa

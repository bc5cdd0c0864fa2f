/-
  Values that hold numbers; A device's methods on a device that is nil, or was not made by New; The device laws' steps as data, and short.
-/
import Derived.Test.YteglaedkhopbgaaMC
import Derived.Test.YteglaedkhopbgaaMI
import Derived.Test.YteglaedkhopbgaaMJ
namespace Go.Proofs.Yteglaedkhopbgaa
open Go.RowKit
set_option linter.unusedVariables false
/-- A value that holds numbers. -/
def HoldsI (w : World) (v : Value) (zs : List Int) : Prop := (∃ A n c, v = .slice A n c ∧ n = zs.length ∧ n ≤ c ∧ c ≤ maxLen ∧ Reads w w.heap.size 1 A n (ints zs)) ∧ ∀ z ∈ zs, -9223372036854775808 ≤ z ∧ z ≤ 9223372036854775807
theorem HoldsI.below {w w' : World} {v : Value} {zs : List Int} (h : HoldsI w v zs) (hb : Below w.heap.size w w') : HoldsI w' v zs := by
  obtain ⟨⟨A, n, c, rfl, h0, h1, h2, h3⟩, h4⟩ := h
  exact ⟨⟨A, n, c, rfl, h0, h1, h2, (h3.below hb).more hb.size⟩, h4⟩
theorem bytes_of_rd {w : World} {n c : Nat} {A : Option Addr} {xs : List Value} (h1 : n ≤ c) (h2 : c ≤ maxLen) (hr : Reads w w.heap.size 1 A n xs) (hd : ∀ i, i < n → Rd Try.prog w 5 ((xs.drop (i * 1)).take 1)) :
    ∃ l, Holds w (.slice A n c) l := by
  have hl : xs.length = n := by have := hr.1; omega
  obtain ⟨l, rfl⟩ := bytes_of_all xs (fun k hk => by
    have h := hd k (by omega)
    rw [Nat.mul_one, List.drop_eq_getElem_cons hk] at h
    obtain ⟨m, e, hw⟩ := Rd.int (k := .u8) Try.underlying5 h
    obtain ⟨b, rfl⟩ := u8_of_wf hw
    refine ⟨b, ?_⟩
    have e2 : [xs[k]] = [Value.int .u8 (n8 b)] := e
    have e' : xs[k] = .int .u8 (n8 b) := by injection e2
    rw [List.getElem?_eq_getElem hk, e'])
  rw [u8s_length] at hl
  exact ⟨l, A, n, c, rfl, hl.symm, h1, h2, hr⟩
theorem ints_of_all : ∀ zs : List Value, (∀ k, k < zs.length → ∃ b : Int, (-9223372036854775808 ≤ b ∧ b ≤ 9223372036854775807) ∧ zs[k]? = some (.int .i64 b)) → ∃ l : List Int, zs = ints l ∧ ∀ z ∈ l, -9223372036854775808 ≤ z ∧ z ≤ 9223372036854775807 := by
  intro zs
  induction zs with
  | nil => intro _; exact ⟨[], rfl, fun z hz => by cases hz⟩
  | cons z zs ih =>
    intro h
    obtain ⟨b, hbb, hb⟩ := h 0 (by simp)
    obtain ⟨l, rfl, hl⟩ := ih (fun k hk => by simpa using h (k + 1) (by simpa using hk))
    have : z = .int .i64 b := by simpa using hb
    subst this
    exact ⟨b :: l, rfl, fun z hz => by
      rcases List.mem_cons.1 hz with rfl | hz
      · exact hbb
      · exact hl z hz⟩
theorem ints_of_rd {w : World} {n c : Nat} {A : Option Addr} {xs : List Value} (h1 : n ≤ c) (h2 : c ≤ maxLen) (hr : Reads w w.heap.size 1 A n xs) (hd : ∀ i, i < n → Rd Try.prog w 3 ((xs.drop (i * 1)).take 1)) :
    ∃ l, HoldsI w (.slice A n c) l := by
  have hl : xs.length = n := by have := hr.1; omega
  obtain ⟨l, rfl, hall⟩ := ints_of_all xs (fun k hk => by
    have h := hd k (by omega)
    rw [Nat.mul_one, List.drop_eq_getElem_cons hk] at h
    obtain ⟨m, e, hw⟩ := Rd.int (k := .i64) Try.underlying3 h
    refine ⟨m, i64_of_wf hw, ?_⟩
    have e2 : [xs[k]] = [Value.int .i64 m] := e
    have e' : xs[k] = .int .i64 m := by injection e2
    rw [List.getElem?_eq_getElem hk, e'])
  rw [ints_length] at hl
  exact ⟨l, ⟨A, n, c, rfl, hl.symm, h1, h2, hr⟩, hall⟩
end Go.Proofs.Yteglaedkhopbgaa
namespace Go.Proofs.Yteglaedkhopbgaa
open Go.RowKit Go.Shelf
set_option linter.unusedVariables false
/-- A device that is nil, or was not made by New. -/
def NoDev (w : World) (p : Option Addr) : Prop := p = none ∨ ∃ g, p = some ⟨g, 0, none⟩ ∧ w.cell? ⟨g, 2, none⟩ = some (.int .i64 0)
theorem NoDev.below {w w' : World} {p : Option Addr} (h : NoDev w p) (hb : Below w.heap.size w w') : NoDev w' p := by
  rcases h with rfl | ⟨g, rfl, hc⟩
  · exact .inl rfl
  · exact .inr ⟨g, rfl, (hb.cell (p := ⟨g, 2, none⟩) (block_lt_of_cell hc)).trans hc⟩
section
variable {w w' : World} {p : Option Addr}
set_option maxHeartbeats 400000 in
theorem valid_nodev (h : NoDev w p) :
    Calls Try.prog 41 #[.pointer p] w fun e w' => e = .returned (.bool false) ∧ w = w' := by
  rcases h with rfl | ⟨g, rfl, hc⟩
  · go_enter Try.func41, Try.ntmps41
    go_wp2_with fail
    go_ret
    exact ⟨rfl, rfl⟩
  · go_enter Try.func41, Try.ntmps41
    go_wp2_with fail
    go_ret
    exact ⟨rfl, rfl⟩
set_option maxHeartbeats 400000 in
theorem check_nodev (h : NoDev w p) (i : Int) :
    Calls Try.prog 35 #[.pointer p, .int .i64 i] w fun e w' => e = .returned (.int .i64 1) ∧ w = w' := by
  have HV := Lib.hid (valid_nodev h)
  clear h
  go_enter Try.func35, Try.ntmps35
  go_wp2_with fail
  refine HV.out.mono ?_
  rintro e w' ⟨rfl, rfl⟩
  go_wp2_with fail
  go_ret
  exact ⟨rfl, rfl⟩
set_option maxHeartbeats 400000 in
theorem len_nodev (h : NoDev w p) (i : Int) :
    Calls Try.prog 16 #[.pointer p, .int .i64 i] w fun e w' => e = .returned (.tuple #[.int .i64 0, .int .i64 1]) ∧ Below w.heap.size w w' := by
  have HC := Lib.hid (check_nodev h i)
  clear h
  go_enter Try.func16, Try.ntmps16
  go_wp2_with fail
  refine HC.out.mono ?_
  rintro e w1 ⟨rfl, rfl⟩
  go_wp2_with fail
  go_ret2
  exact ⟨rfl, Below.refl _ _⟩
set_option maxHeartbeats 400000 in
theorem room_nodev (h : NoDev w p) (i : Int) :
    Calls Try.prog 24 #[.pointer p, .int .i64 i] w fun e w' => e = .returned (.tuple #[.int .i64 0, .int .i64 1]) ∧ Below w.heap.size w w' := by
  have HC := Lib.hid (check_nodev h i)
  clear h
  go_enter Try.func24, Try.ntmps24
  go_wp2_with fail
  refine HC.out.mono ?_
  rintro e w1 ⟨rfl, rfl⟩
  go_wp2_with fail
  go_ret2
  exact ⟨rfl, Below.refl _ _⟩
set_option maxHeartbeats 400000 in
theorem uns_nodev (h : NoDev w p) (i : Int) :
    Calls Try.prog 23 #[.pointer p, .int .i64 i] w fun e w' => e = .returned (.tuple #[.int .i64 0, .int .i64 1]) ∧ Below w.heap.size w w' := by
  have HC := Lib.hid (len_nodev h i)
  clear h
  go_enter Try.func23, Try.ntmps23
  go_wp2_with fail
  refine HC.out.mono ?_
  rintro e w1 ⟨rfl, hb⟩
  have HB := Lib.hid hb
  clear hb
  go_wp2_with fail
  go_ret2
  exact ⟨rfl, HB.out⟩
set_option maxHeartbeats 400000 in
theorem read_nodev (h : NoDev w p) (i off m : Int) :
    Calls Try.prog 22 #[.pointer p, .int .i64 i, .int .i64 off, .int .i64 m] w fun e w' => e = .returned (.tuple #[.slice none 0 0, .int .i64 1]) ∧ Below w.heap.size w w' := by
  have HC := Lib.hid (check_nodev h i)
  clear h
  go_enter Try.func22, Try.ntmps22
  go_wp2_with fail
  refine HC.out.mono ?_
  rintro e w1 ⟨rfl, rfl⟩
  go_wp2_with fail
  go_ret2
  exact ⟨rfl, Below.refl _ _⟩
set_option maxHeartbeats 400000 in
theorem down_nodev (h : NoDev w p) :
    Calls Try.prog 14 #[.pointer p] w fun e w' => e = .returned (.bool false) ∧ Below w.heap.size w w' := by
  have HC := Lib.hid (valid_nodev h)
  clear h
  go_enter Try.func14, Try.ntmps14
  go_wp2_with fail
  refine HC.out.mono ?_
  rintro e w1 ⟨rfl, rfl⟩
  go_wp2_with fail
  go_ret
  exact ⟨rfl, Below.refl _ _⟩
set_option maxHeartbeats 400000 in
theorem ops_nodev (h : NoDev w p) :
    Calls Try.prog 17 #[.pointer p] w fun e w' => e = .returned (.int .i64 0) ∧ Below w.heap.size w w' := by
  have HC := Lib.hid (valid_nodev h)
  clear h
  go_enter Try.func17, Try.ntmps17
  go_wp2_with fail
  refine HC.out.mono ?_
  rintro e w1 ⟨rfl, rfl⟩
  go_wp2_with fail
  go_ret
  exact ⟨rfl, Below.refl _ _⟩
set_option maxHeartbeats 400000 in
theorem slots_nodev (h : NoDev w p) :
    Calls Try.prog 25 #[.pointer p] w fun e w' => e = .returned (.int .i64 0) ∧ Below w.heap.size w w' := by
  have HC := Lib.hid (valid_nodev h)
  clear h
  go_enter Try.func25, Try.ntmps25
  go_wp2_with fail
  refine HC.out.mono ?_
  rintro e w1 ⟨rfl, rfl⟩
  go_wp2_with fail
  go_ret
  exact ⟨rfl, Below.refl _ _⟩
set_option maxHeartbeats 400000 in
theorem disk_nodev (h : NoDev w p) :
    Calls Try.prog 27 #[.pointer p] w fun e w' => e = .returned (.pointer none) ∧ Below w.heap.size w w' := by
  have HC := Lib.hid (valid_nodev h)
  clear h
  go_enter Try.func27, Try.ntmps27
  go_wp2_with fail
  refine HC.out.mono ?_
  rintro e w1 ⟨rfl, rfl⟩
  go_wp2_with fail
  go_ret
  exact ⟨rfl, Below.refl _ _⟩
set_option maxHeartbeats 400000 in
theorem copy_nodev (h : NoDev w p) :
    Calls Try.prog 29 #[.pointer p] w fun e w' => e = .returned (.pointer none) ∧ Below w.heap.size w w' := by
  have HC := Lib.hid (valid_nodev h)
  clear h
  go_enter Try.func29, Try.ntmps29
  go_wp2_with fail
  refine HC.out.mono ?_
  rintro e w1 ⟨rfl, rfl⟩
  go_wp2_with fail
  go_ret
  exact ⟨rfl, Below.refl _ _⟩
set_option maxHeartbeats 400000 in
theorem restart_nodev (h : NoDev w p) :
    Calls Try.prog 15 #[.pointer p] w fun e w' => e = .returned (.int .i64 1) ∧ Below w.heap.size w w' := by
  have HC := Lib.hid (valid_nodev h)
  clear h
  go_enter Try.func15, Try.ntmps15
  go_wp2_with fail
  refine HC.out.mono ?_
  rintro e w1 ⟨rfl, rfl⟩
  go_wp2_with fail
  go_ret
  exact ⟨rfl, Below.refl _ _⟩
set_option maxHeartbeats 1000000 in
theorem sync_nodev (h : NoDev w p) (i : Int) :
    Calls Try.prog 18 #[.pointer p, .int .i64 i] w fun e w' => e = .returned (.int .i64 1) ∧ Below w.heap.size w w' := by
  have HB : Hid (Below w.heap.size w ((w.alloc (.cells #[.pointer p] 22)).alloc (.cells #[.int .i64 i] 3))) := (((Below.refl _ _).alloc (Nat.le_refl _) _).alloc (by simp) _)
  have HC := Lib.hid (check_nodev (h.below HB.out) i)
  clear h
  go_enter Try.func18, Try.ntmps18
  go_wp2_with fail
  refine HC.out.mono ?_
  rintro e w1 ⟨rfl, rfl⟩
  go_wp2_with fail
  go_ret
  exact ⟨rfl, HB.out⟩
set_option maxHeartbeats 1000000 in
theorem erase_nodev (h : NoDev w p) (i : Int) :
    Calls Try.prog 28 #[.pointer p, .int .i64 i] w fun e w' => e = .returned (.int .i64 1) ∧ Below w.heap.size w w' := by
  have HB : Hid (Below w.heap.size w ((w.alloc (.cells #[.pointer p] 22)).alloc (.cells #[.int .i64 i] 3))) := (((Below.refl _ _).alloc (Nat.le_refl _) _).alloc (by simp) _)
  have HC := Lib.hid (check_nodev (h.below HB.out) i)
  clear h
  go_enter Try.func28, Try.ntmps28
  go_wp2_with fail
  refine HC.out.mono ?_
  rintro e w1 ⟨rfl, rfl⟩
  go_wp2_with fail
  go_ret
  exact ⟨rfl, HB.out⟩
set_option maxHeartbeats 1000000 in
theorem append_nodev (h : NoDev w p) (i : Int) (A : Option Addr) (m c : Nat) :
    Calls Try.prog 11 #[.pointer p, .int .i64 i, .slice A m c] w fun e w' => e = .returned (.int .i64 1) ∧ Below w.heap.size w w' := by
  have HB : Hid (Below w.heap.size w (((w.alloc (.cells #[.pointer p] 22)).alloc (.cells #[.int .i64 i] 3)).alloc (.cells #[.slice A m c] 27))) := ((((Below.refl _ _).alloc (Nat.le_refl _) _).alloc (by simp) _).alloc (by simp; omega) _)
  have HC := Lib.hid (check_nodev (h.below HB.out) i)
  clear h
  go_enter Try.func11, Try.ntmps11
  go_wp2_with fail
  refine HC.out.mono ?_
  rintro e w1 ⟨rfl, rfl⟩
  go_wp2_with fail
  go_ret
  exact ⟨rfl, HB.out⟩
set_option maxHeartbeats 1000000 in
theorem arm_nodev (h : NoDev w p) (at_ : Int) (dn : Bool) (A : Option Addr) (m c : Nat) :
    Calls Try.prog 12 #[.pointer p, .agg #[.int .i64 at_, .bool dn, .slice A m c]] w fun e w' => e = .returned (.int .i64 1) ∧ Below w.heap.size w w' := by
  have HB : Hid (Below w.heap.size w (w.alloc (.cells #[.int .i64 at_, .bool dn, .slice A m c] 31))) := ((Below.refl _ _).alloc (Nat.le_refl _) _)
  have HC := Lib.hid (valid_nodev (h.below HB.out))
  clear h
  go_enter Try.func12, Try.ntmps12
  go_wp2_with fail
  refine HC.out.mono ?_
  rintro e w1 ⟨rfl, rfl⟩
  go_wp2_with fail
  go_ret
  exact ⟨rfl, HB.out⟩
end
end Go.Proofs.Yteglaedkhopbgaa
namespace Go.Proofs.Yteglaedkhopbgaa
open Go.RowKit Go.Shelf
set_option linter.unusedVariables false
structure VStep where
  what : Int
  slot : Int
  off : Int
  n : Int
  b : List (BitVec 8)
  at_ : Int
  dn : Bool
  keep : List Int
structure VStep.Ok (w : World) (st : VStep) (v4 v7 : Value) : Prop where
  hv : Holds w v4 st.b
  hk : HoldsI w v7 st.keep
  ha : -9223372036854775808 ≤ st.at_ ∧ st.at_ ≤ 9223372036854775807
def VStep.cells (st : VStep) (v4 v7 : Value) : Array Value := #[.int .i64 st.what, .int .i64 st.slot, .int .i64 st.off, .int .i64 st.n, v4, .int .i64 st.at_, .bool st.dn, v7]
structure VStepAt (w : World) (B : Nat) (A : Option Addr) (i : Nat) (ad : Addr) (st : VStep) (v4 v7 : Value) : Prop where
  a : A = some ad
  lt : ad.block < B
  c0 : w.cell? (ad.add (i * 8)) = some (.int .i64 st.what)
  c1 : w.cell? ⟨(ad.add (i * 8)).block, (ad.add (i * 8)).off + 1, none⟩ = some (.int .i64 st.slot)
  c2 : w.cell? ⟨(ad.add (i * 8)).block, (ad.add (i * 8)).off + 2, none⟩ = some (.int .i64 st.off)
  c3 : w.cell? ⟨(ad.add (i * 8)).block, (ad.add (i * 8)).off + 3, none⟩ = some (.int .i64 st.n)
  c4 : w.cell? ⟨(ad.add (i * 8)).block, (ad.add (i * 8)).off + 4, none⟩ = some (v4)
  c5 : w.cell? ⟨(ad.add (i * 8)).block, (ad.add (i * 8)).off + 5, none⟩ = some (.int .i64 st.at_)
  c6 : w.cell? ⟨(ad.add (i * 8)).block, (ad.add (i * 8)).off + 6, none⟩ = some (.bool st.dn)
  c7 : w.cell? ⟨(ad.add (i * 8)).block, (ad.add (i * 8)).off + 7, none⟩ = some (v7)
  ok : st.Ok w v4 v7
def VStepsAt (w : World) (B : Nat) (A : Option Addr) (n : Nat) (sts : Nat → VStep) : Prop := ∀ i, i < n → ∃ ad v4 v7, VStepAt w B A i ad (sts i) v4 v7
theorem VStepAt.below {w w' : World} {A : Option Addr} {i : Nat} {ad : Addr} {st : VStep} {v4 v7 : Value} (h : VStepAt w w.heap.size A i ad st v4 v7) (hb : Below w.heap.size w w') : VStepAt w' w.heap.size A i ad st v4 v7 := by
  have key : ∀ p : Addr, p.block = ad.block → w'.cell? p = w.cell? p := fun p hp => hb.cell (by rw [hp]; exact h.lt)
  exact ⟨h.a, h.lt, (key _ (block_of_add _ _)).trans h.c0, (key ⟨(ad.add (i * 8)).block, _, none⟩ (block_of_add ad (i * 8))).trans h.c1, (key ⟨(ad.add (i * 8)).block, _, none⟩ (block_of_add ad (i * 8))).trans h.c2, (key ⟨(ad.add (i * 8)).block, _, none⟩ (block_of_add ad (i * 8))).trans h.c3, (key ⟨(ad.add (i * 8)).block, _, none⟩ (block_of_add ad (i * 8))).trans h.c4, (key ⟨(ad.add (i * 8)).block, _, none⟩ (block_of_add ad (i * 8))).trans h.c5, (key ⟨(ad.add (i * 8)).block, _, none⟩ (block_of_add ad (i * 8))).trans h.c6, (key ⟨(ad.add (i * 8)).block, _, none⟩ (block_of_add ad (i * 8))).trans h.c7, ⟨h.ok.hv.below hb, h.ok.hk.below hb, h.ok.ha⟩⟩
set_option maxRecDepth 100000 in
set_option maxHeartbeats 1000000 in
/-- A step's cells, out of what can be read. -/
theorem vstep_of_rd {w : World} {cs : List Value} (hl : cs.length = Try.prog.cellsOf 61)
    (hf : ∀ (i : Nat) (f : Field), (match Try.prog.underlying 61 with | some (.struct fs) => fs[i]? | _ => none) = some f → Rd Try.prog w f.type ((cs.drop f.offset).take (Try.prog.cellsOf f.type))) :
    ∃ (st : VStep) (v4 v7 : Value), cs = (st.cells v4 v7).toList ∧ st.Ok w v4 v7 := by
  have hC : Try.prog.cellsOf 61 = 8 := by kernel_rfl
  have hC1 : Try.prog.cellsOf 3 = 1 := by kernel_rfl
  have hC2 : Try.prog.cellsOf 27 = 1 := by kernel_rfl
  have hC3 : Try.prog.cellsOf 5 = 1 := by kernel_rfl
  have hC4 : Try.prog.cellsOf 29 = 1 := by kernel_rfl
  have hC5 : Try.prog.cellsOf 31 = 3 := by kernel_rfl
  have hC6 : Try.prog.cellsOf 4 = 1 := by kernel_rfl
  rw [hC] at hl
  obtain ⟨x0, x1, x2, x3, x4, x5, x6, x7, rfl⟩ : ∃ a b c d e f g h, cs = [a, b, c, d, e, f, g, h] := by
    match cs, hl with
    | [a, b, c, d, e, f, g, h], _ => exact ⟨a, b, c, d, e, f, g, h, rfl⟩
  rw [Try.underlying61] at hf
  have g0 : Rd Try.prog w 3 [x0] := by simpa [hC1] using hf 0 _ rfl
  have g1 : Rd Try.prog w 3 [x1] := by simpa [hC1] using hf 1 _ rfl
  have g2 : Rd Try.prog w 3 [x2] := by simpa [hC1] using hf 2 _ rfl
  have g3 : Rd Try.prog w 3 [x3] := by simpa [hC1] using hf 3 _ rfl
  have g4 : Rd Try.prog w 27 [x4] := by simpa [hC2] using hf 4 _ rfl
  have gp : Rd Try.prog w 31 [x5, x6, x7] := by simpa [hC5] using hf 5 _ rfl
  obtain ⟨hpl, hpf⟩ := Rd.struct Try.underlying31 gp
  have g5 : Rd Try.prog w 3 [x5] := by simpa [hC1] using hpf 0 _ rfl
  have g6 : Rd Try.prog w 4 [x6] := by simpa [hC6] using hpf 1 _ rfl
  have g7 : Rd Try.prog w 29 [x7] := by simpa [hC4] using hpf 2 _ rfl
  obtain ⟨d0, e0, _⟩ := Rd.int (k := .i64) Try.underlying3 g0
  obtain ⟨d1, e1, _⟩ := Rd.int (k := .i64) Try.underlying3 g1
  obtain ⟨d2, e2, _⟩ := Rd.int (k := .i64) Try.underlying3 g2
  obtain ⟨d3, e3, _⟩ := Rd.int (k := .i64) Try.underlying3 g3
  obtain ⟨d5, e5, hw5⟩ := Rd.int (k := .i64) Try.underlying3 g5
  obtain ⟨d6, e6⟩ := Rd.bool Try.underlying4 g6
  obtain ⟨A1, n1, c1, ys, e4, y1, y2, y3, y4⟩ := g4.slice (e := 5) Try.underlying27 (by rw [hC3]; omega)
  rw [hC3] at y3 y4
  obtain ⟨b, hb⟩ := bytes_of_rd y1 y2 y3 y4
  obtain ⟨A2, n2, c2, zs, e7, z1, z2, z3, z4⟩ := g7.slice (e := 3) Try.underlying29 (by rw [hC1]; omega)
  rw [hC1] at z3 z4
  obtain ⟨k, hk⟩ := ints_of_rd z1 z2 z3 z4
  have q0 : x0 = .int .i64 d0 := by simpa using e0
  have q1 : x1 = .int .i64 d1 := by simpa using e1
  have q2 : x2 = .int .i64 d2 := by simpa using e2
  have q3 : x3 = .int .i64 d3 := by simpa using e3
  have q4 : x4 = .slice A1 n1 c1 := by simpa using e4
  have q5 : x5 = .int .i64 d5 := by simpa using e5
  have q6 : x6 = .bool d6 := by simpa using e6
  have q7 : x7 = .slice A2 n2 c2 := by simpa using e7
  subst q0 q1 q2 q3 q4 q5 q6 q7
  exact ⟨⟨d0, d1, d2, d3, b, d5, d6, k⟩, _, _, rfl, hb, hk, i64_of_wf hw5⟩
set_option maxRecDepth 100000 in
theorem vstep_arg {w : World} {v : Value} (h : ArgIn Try.prog w 61 v) : ∃ (st : VStep) (v4 v7 : Value), v = .agg (st.cells v4 v7) ∧ st.Ok w v4 v7 := by
  obtain ⟨cs, rfl, h1, h2⟩ := h.struct Try.underlying61
  obtain ⟨st, v4, v7, e, ok⟩ := vstep_of_rd h1 (fun i f hf => by rw [Try.underlying61] at hf; exact h2 i f hf)
  exact ⟨st, v4, v7, by rw [← Array.toList_inj.1 e], ok⟩
set_option maxRecDepth 100000 in
theorem vsteps_arg {w : World} {v : Value} (h : ArgIn Try.prog w 63 v) : ∃ A n c sts, v = .slice A n c ∧ n ≤ c ∧ c ≤ maxLen ∧ VStepsAt w w.heap.size A n sts := by
  obtain ⟨A, n, c, xs, rfl, h1, h2, h3, h4⟩ := h.slice (e := 61) rfl (by decide +kernel)
  have hC : Try.prog.cellsOf 61 = 8 := by kernel_rfl
  have key : ∀ i, ∃ st : VStep, i < n → ∃ ad v4 v7, VStepAt w w.heap.size A i ad st v4 v7 := fun i => by
    by_cases hi : i < n
    · obtain ⟨hl, hf⟩ := Rd.struct Try.underlying61 (h4 i hi)
      obtain ⟨st, v4, v7, e, ok⟩ := vstep_of_rd hl (fun i f hf' => by rw [Try.underlying61] at hf'; exact hf i f hf')
      rw [hC] at h3 e
      obtain ⟨ad, ea, hbk, hc⟩ := h3.2 (by omega)
      have at_ : ∀ q v, (st.cells v4 v7).toList[q]? = some v → q < 8 → w.cell? ((ad.add (i * 8)).add q) = some v := by
        intro q v hq hq3
        rw [← e, List.getElem?_take, if_pos hq3, List.getElem?_drop] at hq
        rw [add_of_add]
        exact hc _ _ hq
      refine ⟨st, fun _ => ⟨ad, v4, v7, ea, hbk, ?_, ?_, ?_, ?_, ?_, ?_, ?_, ?_, ok⟩⟩
      · have := at_ 0 _ rfl (by omega); rw [add_of_add, Nat.add_zero] at this; exact this
      · exact at_ 1 _ rfl (by omega)
      · exact at_ 2 _ rfl (by omega)
      · exact at_ 3 _ rfl (by omega)
      · exact at_ 4 _ rfl (by omega)
      · exact at_ 5 _ rfl (by omega)
      · exact at_ 6 _ rfl (by omega)
      · exact at_ 7 _ rfl (by omega)
    · exact ⟨⟨0, 0, 0, 0, [], 0, false, []⟩, fun h => absurd h hi⟩
  exact ⟨A, n, c, fun i => (key i).choose, rfl, h1, h2, fun i hi => (key i).choose_spec hi⟩
def vshortS (st : VStep) : Prop := st.b.length ≤ 200 ∧ st.keep.length ≤ 40
def VShortQ (w : World) (n most : Nat) (sts : Nat → VStep) (e : Ending) (w' : World) : Prop := ∃ r, e = .returned (.bool r) ∧ (r = true → n ≤ most ∧ ∀ i, i < n → vshortS (sts i)) ∧ w = w'
set_option maxRecDepth 100000 in
set_option maxHeartbeats 1000000 in
theorem vshort_any (A : Option Addr) (n c : Nat) (sts : Nat → VStep) (most : Nat) (w : World) (h : VStepsAt w w.heap.size A n sts) (hn : n ≤ c) (hc : c ≤ maxLen) :
    Calls Try.prog 31 #[.slice A n c, .int .i64 (most : Int)] w (VShortQ w n most sts) := by
  have H := Lib.hid h
  unfold maxLen at hc
  clear h
  by_cases hm : most < n
  · go_enter Try.func31, Try.ntmps31
    go_wp2_with fail
    go_ret
    exact ⟨false, rfl, (fun h => by cases h), rfl⟩
  · go_enter Try.func31, Try.ntmps31
    go_wp2_with fail
    go_loopg [5] n (fun q v5 wr => ∃ (j : Nat), j + q = n ∧ v5 = .int .i64 j ∧ (∀ i, i < j → vshortS (sts i)) ∧ w = wr)
    case atStart => exact ⟨0, by omega, rfl, fun i hi => by omega, rfl⟩
    case round =>
      obtain ⟨j, hj, rfl, hp, rfl⟩ := hrel
      have HJ := Lib.hid hj
      have HP := Lib.hid hp
      have hj' : j ≤ n := by omega
      by_cases hlt : j < n
      · obtain ⟨ad, v4, v7, hst⟩ := H.out j hlt
        obtain ⟨A4, n4, c4, rfl, e4, h41, h42, _⟩ := hst.ok.hv
        obtain ⟨⟨A5, n5, c5, rfl, e5, h51, h52, _⟩, _⟩ := hst.ok.hk
        have k4 := hst.c4
        have k5 := hst.c7
        obtain rfl := hst.a
        have HE4 := Lib.hid e4
        have HE5 := Lib.hid e5
        unfold maxLen at h42 h52
        clear hst hj hp e4 e5
        by_cases b4 : 200 < n4
        · go_wp2_with fail
          go_ret
          exact ⟨false, rfl, (fun h => by cases h), rfl⟩
        · by_cases b5 : 40 < n5
          · go_wp2_with fail
            go_ret
            exact ⟨false, rfl, (fun h => by cases h), rfl⟩
          · go_wp2_with fail
            go_roundg (gk - 1)
            case measure => have := HJ.out; omega
            case rel =>
              refine ⟨j + 1, by have := HJ.out; omega, by go_num, fun i hi => ?_, rfl⟩
              by_cases e : i = j
              · subst e
                exact ⟨by have := HE4.out; omega, by have := HE5.out; omega⟩
              · exact HP.out i (by omega)
      · have e8 : j = n := by omega
        subst e8
        clear hj
        go_wp2_with fail
        go_ret
        exact ⟨true, rfl, fun _ => ⟨by omega, HP.out⟩, rfl⟩
end Go.Proofs.Yteglaedkhopbgaa

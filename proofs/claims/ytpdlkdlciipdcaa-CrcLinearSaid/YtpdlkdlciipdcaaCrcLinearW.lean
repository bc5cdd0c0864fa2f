/-
  The walk of the law CrcLinear: it returns true and writes nothing that was there. No condition.
-/
import Derived.Test.YtpdlkdlciipdcaaCrcZerosW
import Derived.Test.YtpdlkdlciipdcaaLaws
import Derived.Deep.RegionWith
import Derived.BigRegion
namespace Go.Proofs.Ytpdlkdlciipdcaa
open Go.RowKit Drum
set_option linter.unusedVariables false
/-- The xor of three strings of bytes. -/
def xor3 : List (BitVec 8) → List (BitVec 8) → List (BitVec 8) → List (BitVec 8)
  | a :: l, b :: m, c :: n => (a ^^^ b ^^^ c) :: xor3 l m n
  | _, _, _ => []
theorem craw_xor3 : ∀ (l m n : List (BitVec 8)), l.length = m.length → m.length = n.length → ∀ x y z : W32, craw (x ^^^ y ^^^ z) (xor3 l m n) = craw x l ^^^ craw y m ^^^ craw z n := by
  intro l
  induction l with
  | nil =>
    intro m n h1 h2 x y z
    have : m = [] := List.eq_nil_of_length_eq_zero (by simpa using h1.symm)
    subst this
    have : n = [] := List.eq_nil_of_length_eq_zero (by simpa using h2.symm)
    subst this
    rfl
  | cons a l ih =>
    intro m n h1 h2 x y z
    cases m with
    | nil => simp at h1
    | cons b m =>
      cases n with
      | nil => simp at h2
      | cons c n =>
        show craw (cfeed (x ^^^ y ^^^ z) (a ^^^ b ^^^ c)) (xor3 l m n) = craw (cfeed x a) l ^^^ craw (cfeed y b) m ^^^ craw (cfeed z c) n
        have e : cfeed (x ^^^ y ^^^ z) (a ^^^ b ^^^ c) = cfeed x a ^^^ cfeed y b ^^^ cfeed z c := by
          unfold cfeed
          rw [← it_lin cstep_lin 8, ← it_lin cstep_lin 8]
          congr 1
          have hw : wide (a ^^^ b ^^^ c) = wide a ^^^ wide b ^^^ wide c := by
            unfold wide; simp [BitVec.setWidth_xor]
          rw [hw]; ac_rfl
        rw [e]
        exact ih m n (by simpa using h1) (by simpa using h2) _ _ _
theorem csum_xor3 (l m n : List (BitVec 8)) (h1 : l.length = m.length) (h2 : m.length = n.length) : csum l ^^^ csum m ^^^ csum n = csum (xor3 l m n) := by
  unfold csum cupd
  rw [BitVec.zero_xor]
  have h := craw_xor3 l m n h1 h2 0xFFFFFFFF#32 0xFFFFFFFF#32 0xFFFFFFFF#32
  rw [BitVec.xor_self, BitVec.zero_xor] at h
  rw [h]
  generalize craw 0xFFFFFFFF#32 l = p
  generalize craw 0xFFFFFFFF#32 m = q
  generalize craw 0xFFFFFFFF#32 n = r
  generalize (0xFFFFFFFF#32 : W32) = o
  have : p ^^^ o ^^^ (q ^^^ o) ^^^ (r ^^^ o) = p ^^^ q ^^^ r ^^^ (o ^^^ o) ^^^ o := by ac_rfl
  rw [this, BitVec.xor_self, BitVec.xor_zero]
theorem xor3_length : ∀ (l m n : List (BitVec 8)), l.length = m.length → m.length = n.length → (xor3 l m n).length = l.length := by
  intro l
  induction l with
  | nil => intro m n _ _; rfl
  | cons a l ih =>
    intro m n h1 h2
    cases m with
    | nil => simp at h1
    | cons b m =>
      cases n with
      | nil => simp at h2
      | cons c n => simp [xor3, ih m n (by simpa using h1) (by simpa using h2)]
theorem xor3_at : ∀ (l m n : List (BitVec 8)) (j : Nat) (h : j < l.length) (h' : j < m.length) (h'' : j < n.length), (xor3 l m n)[j]? = some (l[j] ^^^ m[j] ^^^ n[j]) := by
  intro l
  induction l with
  | nil => intro m n j h; simp at h
  | cons a l ih =>
    intro m n j h h' h''
    cases m with
    | nil => simp at h'
    | cons b m =>
      cases n with
      | nil => simp at h''
      | cons c n =>
        cases j with
        | zero => rfl
        | succ j => simp only [xor3, List.getElem?_cons_succ, List.getElem_cons_succ]; exact ih m n j (by simpa using h) (by simpa using h') (by simpa using h'')
theorem Reads.take {w : World} {B : Nat} {A : Option Addr} {n k : Nat} {l : List (BitVec 8)} (h : Reads w B 1 A n (u8s l)) (hk : k ≤ n) : Reads w B 1 A k (u8s (l.take k)) := by
  have hl := h.1
  rw [u8s_length] at hl
  refine ⟨by rw [u8s_length, List.length_take]; omega, fun hk0 => ?_⟩
  obtain ⟨ad, e, hb, hc⟩ := h.2 (by omega)
  refine ⟨ad, e, hb, fun j u hu => hc j u ?_⟩
  rw [← hu]
  have hj : j < k := by
    have := (List.getElem?_eq_some_iff.1 hu).1
    rw [u8s_length, List.length_take] at this; omega
  simp [u8s, hj]
/-- The xor's bytes, filled up to j. -/
def x3To (x : List (BitVec 8)) (j : Nat) : Array Value := (u8s (x.take j) ++ u8s (zbytes (x.length - j))).toArray
theorem x3To_next (x : List (BitVec 8)) (j : Nat) (h : j < x.length) : (x3To x j)[j]? = some (.int .u8 0) := by
  have e : ∃ q, x.length - j = q + 1 := ⟨x.length - j - 1, by omega⟩
  obtain ⟨q, hq⟩ := e
  simp only [x3To, hq, List.getElem?_toArray]
  rw [List.getElem?_append_right (by rw [u8s_length, List.length_take]; omega), u8s_length, List.length_take, show j - min j x.length = 0 by omega]
  simp [u8s, zbytes, u8v, n8, List.replicate_succ]
theorem x3To_set (x : List (BitVec 8)) (j : Nat) (h : j < x.length) : (x3To x j).setIfInBounds j (.int .u8 (n8 x[j])) = x3To x (j + 1) := by
  have e : ∃ q, x.length - j = q + 1 := ⟨x.length - j - 1, by omega⟩
  obtain ⟨q, hq⟩ := e
  have hq2 : x.length - (j + 1) = q := by omega
  simp only [x3To, hq, hq2, List.setIfInBounds_toArray]
  congr 1
  have hz : u8s (zbytes (q + 1)) = .int .u8 0 :: u8s (zbytes q) := by simp [u8s, zbytes, u8v, n8, List.replicate_succ]
  have hl : (u8s (x.take j)).length = j := by rw [u8s_length, List.length_take]; omega
  rw [hz, List.set_append, if_neg (by omega), hl, Nat.sub_self, take_snoc x j h, ← u8s_append, List.append_assoc]
  rfl
set_option maxHeartbeats 2000000 in
set_option maxRecDepth 100000 in
theorem CrcLinear_core (a0 a1 a2 : Option Addr) (n0 n1 n2 c0 c1 c2 : Nat) (l0 l1 l2 : List (BitVec 8)) (w : World) (h0 : n0 = l0.length) (h1 : n1 = l1.length) (h2 : n2 = l2.length)
    (r0 : Reads w w.heap.size 1 a0 n0 (u8s l0)) (r1 : Reads w w.heap.size 1 a1 n1 (u8s l1)) (r2 : Reads w w.heap.size 1 a2 n2 (u8s l2))
    (m0 : n0 ≤ c0) (m1 : n1 ≤ c1) (m2 : n2 ≤ c2) (k0 : c0 ≤ maxLen) (k1 : c1 ≤ maxLen) (k2 : c2 ≤ maxLen) :
    Calls Try.prog 9 #[.slice a0 n0 c0, .slice a1 n1 c1, .slice a2 n2 c2] w fun e w' => e = .returned (.bool true) ∧ Below w.heap.size w w' := by
  unfold maxLen at k0 k1 k2
  have R0 := Lib.hid r0
  have R1 := Lib.hid r1
  have R2 := Lib.hid r2
  have H0 := Lib.hid h0
  have H1 := Lib.hid h1
  have H2 := Lib.hid h2
  clear r0 r1 r2 h0 h1 h2
  obtain ⟨p, hp⟩ : ∃ p : Nat, (if (n2 : Int) < (n1 : Int) then (n2 : Int) else (n1 : Int)) = (p : Int) := by split <;> exact ⟨_, rfl⟩
  obtain ⟨n, hn⟩ : ∃ n : Nat, (if (p : Int) < (n0 : Int) then (p : Int) else (n0 : Int)) = (n : Int) := by split <;> exact ⟨_, rfl⟩
  have b1 : p ≤ n1 ∧ p ≤ n2 := by split at hp <;> omega
  have b2 : n ≤ n0 ∧ n ≤ p := by split at hn <;> omega
  have b3 : n ≤ n0 := b2.1
  have b4 : n ≤ n1 := by omega
  have b5 : n ≤ n2 := by omega
  have HP := Lib.hid hp
  have HN := Lib.hid hn
  have hle1 : n ≤ l0.length := by have := H0.out; omega
  have hle2 : n ≤ l1.length := by have := H1.out; omega
  have hle3 : n ≤ l2.length := by have := H2.out; omega
  clear hp hn b1 b2
  by_cases hlen : 500 < n
  · go_enter Try.func9, Try.ntmps9
    go_wp2_with (first
      | (with_reducible refine wpList_min rfl _ _ _ _ _ _ _ rfl rfl rfl HP.out ?_)
      | (with_reducible refine wpList_min rfl _ _ _ _ _ _ _ rfl rfl rfl HN.out ?_)
      | (go_at_call 13; refine (works_any _).mono ?_; rintro e w' ⟨rfl, hb⟩))
    go_ret
    exact ⟨rfl, hb⟩
  · have hlen' : n ≤ 500 := by omega
    have hmk := make_u8 n (by omega)
    have hx3 := xor3_length (l0.take n) (l1.take n) (l2.take n) (by simp only [List.length_take]; omega) (by simp only [List.length_take]; omega)
    have hx0 : (u8s (zbytes n)).toArray = x3To (xor3 (l0.take n) (l1.take n) (l2.take n)) 0 := by
      simp only [x3To, List.take_zero, hx3, Nat.sub_zero]
      rw [List.length_take, show min n l0.length = n by omega]; rfl
    rw [hx0] at hmk
    have HX := Lib.hid hx3
    clear hx3 hx0
    go_enter Try.func9, Try.ntmps9
    go_wp2_with (first
      | (with_reducible refine wpList_min rfl _ _ _ _ _ _ _ rfl rfl rfl HP.out ?_)
      | (with_reducible refine wpList_min rfl _ _ _ _ _ _ _ rfl rfl rfl HN.out ?_))
    clear hmk
    go_loopg [9] n (fun k v9 wr => ∃ j : Nat, j + k = n ∧ v9 = .int .i64 j ∧ Blk wr w.heap.size 5 (x3To (xor3 (l0.take n) (l1.take n) (l2.take n)) j) ∧ Below w.heap.size w wr)
    case atStart => exact ⟨0, by omega, rfl, Blk.new w _ _, by go_grown⟩
    case round =>
      obtain ⟨j, hj, rfl, hbl, hbel⟩ := hrel
      have hj' : j ≤ n := by omega
      have HJ := Lib.hid hj
      have HBL := Lib.hid hbl
      have HBE := Lib.hid hbel
      by_cases hlt : j < n
      · obtain ⟨ad0, u0, rfl, q0, hx0, hc0⟩ := (R0.out.below hbel).at_ (k := j) (by omega)
        obtain ⟨_, rfl⟩ := u8s_at hx0
        obtain ⟨ad1, u1, rfl, q1, hx1, hc1⟩ := (R1.out.below hbel).at_ (k := j) (by omega)
        obtain ⟨_, rfl⟩ := u8s_at hx1
        obtain ⟨ad2, u2, rfl, q2, hx2, hc2⟩ := (R2.out.below hbel).at_ (k := j) (by omega)
        obtain ⟨_, rfl⟩ := u8s_at hx2
        have hXl : j < (xor3 (l0.take n) (l1.take n) (l2.take n)).length := by rw [HX.out, List.length_take]; omega
        have hcell := hbl.cell j
        rw [x3To_next _ j hXl] at hcell
        have hfr := hbl.frozen j
        have HE : Hid ((xor3 (l0.take n) (l1.take n) (l2.take n))[j] = l0[j] ^^^ l1[j] ^^^ l2[j]) := by
          have := xor3_at (l0.take n) (l1.take n) (l2.take n) j (by rw [List.length_take]; omega) (by rw [List.length_take]; omega) (by rw [List.length_take]; omega)
          rw [List.getElem?_eq_getElem hXl] at this
          show _ = _
          simpa using this
        have HS := Lib.hid (x3To_set _ j hXl)
        have i1 : (0 : Int) ≤ (j : Int) := by omega
        have i2 : (j : Int) < (n : Int) := by omega
        have i3 : (j : Int) < (n0 : Int) := by omega
        have i4 : (j : Int) < (n1 : Int) := by omega
        have i5 : (j : Int) < (n2 : Int) := by omega
        clear hj hbl hbel hx0 hx1 hx2
        go_wp2
        go_region
        go_wp2
        go_roundg (gk - 1)
        case measure => have := HJ.out; omega
        case rel =>
          refine ⟨j + 1, by have := HJ.out; omega, by go_num, ?_, HBE.out.drew.setCell (Nat.le_refl _) _⟩
          rw [← HS.out, HE.out]; exact (HBL.out.drew).set_ j _
      · have e8 : j = n := by omega
        subst e8
        have HF : Hid (Reads wr (w.heap.size + 1) 1 (some ⟨w.heap.size, 0, none⟩) j (u8s (xor3 (l0.take j) (l1.take j) (l2.take j)))) := by
          have hl := HX.out
          rw [List.length_take, show min j l0.length = j by omega] at hl
          refine ⟨by rw [u8s_length]; omega, fun _ => ⟨_, rfl, by simp, fun q u hu => ?_⟩⟩
          rw [show (⟨w.heap.size, 0, none⟩ : Addr).add q = ⟨w.heap.size, q, none⟩ from by unfold Addr.add; split <;> simp_all, hbl.cell]
          have hxx : x3To (xor3 (l0.take j) (l1.take j) (l2.take j)) j = (u8s (xor3 (l0.take j) (l1.take j) (l2.take j))).toArray := by
            simp only [x3To, hl, Nat.sub_self]
            rw [List.take_of_length_le (by omega)]; simp [zbytes, u8s]
          rw [hxx]; simpa using hu
        have HXL : Hid (j = (xor3 (l0.take j) (l1.take j) (l2.take j)).length) := by
          have hl := HX.out
          rw [List.length_take, show min j l0.length = j by omega] at hl
          exact hl.symm
        have HC := Lib.hid (csum_xor3 (l0.take j) (l1.take j) (l2.take j) (by simp only [List.length_take]; omega) (by simp only [List.length_take]; omega))
        have T0 := Lib.hid ((R0.out.below hbel).take b3)
        have T1 := Lib.hid ((R1.out.below hbel).take b4)
        have T2 := Lib.hid ((R2.out.below hbel).take b5)
        have L0 : Hid (j = (l0.take j).length) := by show _ = _; rw [List.length_take]; omega
        have L1 : Hid (j = (l1.take j).length) := by show _ = _; rw [List.length_take]; omega
        have L2 : Hid (j = (l2.take j).length) := by show _ = _; rw [List.length_take]; omega
        have g1 : j ≤ c0 := by omega
        have g2 : j ≤ c1 := by omega
        have g3 : j ≤ c2 := by omega
        clear hj hbl hbel
        have hk : wr.heap.size = wr.heap.size := rfl
        have hws : w.heap.size + 1 ≤ wr.heap.size := by have := HBL.out.lt; omega
        have S0 : Hid (∀ W, Below (w.heap.size + 1) wr W → Calls Try.prog 15 #[.slice a0 j c0] W fun e w' => e = .returned (.int .u32 (n32 (csum (l0.take j)))) ∧ Below (w.heap.size + 1) wr w') := fun W hW =>
          (sum_any _ _ _ _ _ _ (T0.out.below (hW.mono (by omega))) (by have := hW.size; omega) L0.out (by unfold maxLen; omega)).mono fun e w' ⟨h1, h2⟩ => ⟨h1, hW.trans (h2.mono (by have := hW.size; omega))⟩
        have S1 : Hid (∀ W, Below (w.heap.size + 1) wr W → Calls Try.prog 15 #[.slice a1 j c1] W fun e w' => e = .returned (.int .u32 (n32 (csum (l1.take j)))) ∧ Below (w.heap.size + 1) wr w') := fun W hW =>
          (sum_any _ _ _ _ _ _ (T1.out.below (hW.mono (by omega))) (by have := hW.size; omega) L1.out (by unfold maxLen; omega)).mono fun e w' ⟨h1, h2⟩ => ⟨h1, hW.trans (h2.mono (by have := hW.size; omega))⟩
        have S2 : Hid (∀ W, Below (w.heap.size + 1) wr W → Calls Try.prog 15 #[.slice a2 j c2] W fun e w' => e = .returned (.int .u32 (n32 (csum (l2.take j)))) ∧ Below (w.heap.size + 1) wr w') := fun W hW =>
          (sum_any _ _ _ _ _ _ (T2.out.below (hW.mono (by omega))) (by have := hW.size; omega) L2.out (by unfold maxLen; omega)).mono fun e w' ⟨h1, h2⟩ => ⟨h1, hW.trans (h2.mono (by have := hW.size; omega))⟩
        have S3 : Hid (∀ W, Below (w.heap.size + 1) wr W → Calls Try.prog 15 #[.slice (some ⟨w.heap.size, 0, none⟩) j j] W fun e w' => e = .returned (.int .u32 (n32 (csum (xor3 (l0.take j) (l1.take j) (l2.take j))))) ∧ Below (w.heap.size + 1) wr w') := fun W hW =>
          (sum_any _ _ _ _ _ _ (HF.out.below hW) (by have := hW.size; omega) HXL.out (by unfold maxLen; omega)).mono fun e w' ⟨h1, h2⟩ => ⟨h1, hW.trans (h2.mono (by have := hW.size; omega))⟩
        have S4 : Hid (∀ W, Below (w.heap.size + 1) wr W → Calls Try.prog 13 #[] W fun e w' => e = .returned (.bool true) ∧ Below (w.heap.size + 1) wr w') := fun W hW =>
          (works_any _).mono fun e w' ⟨h1, h2⟩ => ⟨h1, hW.trans (h2.mono (by have := hW.size; omega))⟩
        have HC' := HC.out
        generalize csum (xor3 (l0.take j) (l1.take j) (l2.take j)) = s3 at *
        generalize csum (l0.take j) = s0 at *
        generalize csum (l1.take j) = s1 at *
        generalize csum (l2.take j) = s2 at *
        clear hk hws HC' T0 T1 T2 L0 L1 L2 HF HXL
        obtain rfl := HC.out
        go_wp2_with fail
        go_region_with (first
          | (go_at_call 15; refine (S0.out _ (by first | assumption | exact (Below.refl _ _).drew)).mono ?_; rintro e w2 ⟨rfl, hk⟩)
          | (go_at_call 15; refine (S1.out _ (by first | assumption | exact (Below.refl _ _).drew)).mono ?_; rintro e w2 ⟨rfl, hk⟩)
          | (go_at_call 15; refine (S2.out _ (by first | assumption | exact (Below.refl _ _).drew)).mono ?_; rintro e w2 ⟨rfl, hk⟩)
          | (go_at_call 15; refine (S3.out _ (by first | assumption | exact (Below.refl _ _).drew)).mono ?_; rintro e w2 ⟨rfl, hk⟩)
          | (go_at_call 13; refine (S4.out _ (by first | assumption | exact (Below.refl _ _).drew)).mono ?_; rintro e w2 ⟨rfl, hk⟩))
        all_goals
          go_wp2
          go_ret
          exact ⟨rfl, HBE.out.trans (Below.mono (by assumption) (Nat.le_succ _))⟩
theorem CrcLinear_walk (v0 v1 v2 : Value) (w : World) (h0 : ArgIn Try.prog w 22 v0) (h1 : ArgIn Try.prog w 22 v1) (h2 : ArgIn Try.prog w 22 v2) :
    Calls Try.prog 9 #[v0, v1, v2] w fun e w' => e = .returned (.bool true) ∧ Below w.heap.size w w' := by
  obtain ⟨a0, n0, c0, z0, rfl, w0⟩ := h0.row Try.underlying22 Try.underlying5 (by kernel_rfl)
  obtain ⟨a1, n1, c1, z1, rfl, w1⟩ := h1.row Try.underlying22 Try.underlying5 (by kernel_rfl)
  obtain ⟨a2, n2, c2, z2, rfl, w2⟩ := h2.row Try.underlying22 Try.underlying5 (by kernel_rfl)
  obtain ⟨l0, e0, _, m0, k0, r0⟩ := w0.bytes
  obtain ⟨l1, e1, _, m1, k1, r1⟩ := w1.bytes
  obtain ⟨l2, e2, _, m2, k2, r2⟩ := w2.bytes
  exact CrcLinear_core a0 a1 a2 n0 n1 n2 c0 c1 c2 l0 l1 l2 w e0 e1 e2 r0 r1 r2 m0 m1 m2 k0 k1 k2
end Go.Proofs.Ytpdlkdlciipdcaa

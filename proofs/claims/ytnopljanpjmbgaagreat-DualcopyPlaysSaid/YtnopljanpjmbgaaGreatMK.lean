/-
  Bytes as a string, and the conversion of bytes to a string; 'append(b, make([]byte, n)...)' and 'append(b, s...)' for bytes of a call's own, as laws for the walk; 'append' of bytes onto a slice that has no room left: a new row, whatever the old one was; Plain mathematics of the superblock: little-endian numbers, which superblocks are valid, their encodings, and what is decoded; The walks of the codec's widths, Fits, Append and Uint at the widths that are used, and of slices.Index, Contains and Clone at them; The walks of the codec's Append and Uint; The walks of config.Check and superblock.Check, and of the document's; The walks of superblock.Check, and of the document's checks.
-/
import Derived.Test.YtnopljanpjmbgaaGreatMB
import Derived.Test.YtnopljanpjmbgaaGreatProg
import Derived.Test.YtnopljanpjmbgaaGreatMA
import Derived.Laws.BytesString
import Derived.Laws.Strings
import Derived.Laws.CopyOwn
import Derived.Lib.AppendStr
import Derived.Test.YtnopljanpjmbgaaGreatMJ
import Derived.Handy
import Derived.Deep.RegionHeld3
namespace Go.Proofs.YtnopljanpjmbgaaGreat
open Go.RowKit
set_option linter.unusedVariables false
end Go.Proofs.YtnopljanpjmbgaaGreat
namespace Go.Proofs.YtnopljanpjmbgaaGreat
open Go.RowKit
set_option linter.unusedVariables false
def zstr (m : Nat) : ByteArray := ⟨Array.replicate m 0⟩
theorem zstr_size (m : Nat) : (zstr m).size = m := by simp [zstr, ByteArray.size]
theorem zstr_cells (m : Nat) : Lib.strCells (zstr m) = u8s (zbytes m) := by
  simp [Lib.strCells, zstr, u8s, zbytes, u8v, n8_zero']
theorem zeroCells_u8 (m : Nat) : Builtin.zeroCells (Value.int .u8 0).cells m = (Lib.strCells (zstr m)).toArray := by
  apply Array.ext'
  simp [Builtin.zeroCells, Lib.strCells, zstr, Value.cells]
  apply List.ext_getElem
  · simp
  · intro i h1 h2; simp [Nat.mod_one]
section
variable {P : Program} (w : World)
theorem run_append_zeros_eq (t ti tu ty e : TypeId) (i : TypeInfo) (ht : P.underlying t = some (.slice e)) (hti : P.underlying ti = some (.int .i64)) (htu : P.underlying tu = some .string) (hi : P.info? e = some i)
    (hz : i.zero = some (.int .u8 0)) (hsize : i.size = 1) (hby : i.bytes = 1) (A : Option Addr) (n c m : Nat) (hm0' : 0 < m) (hm : n + m ≤ 1099511627776) :
    (Builtin.append_ #[t, ti] ty #[.slice A n c, .int .i64 (m : Int)]).run P w = (Builtin.append_ #[t, tu] ty #[.slice A n c, .string (zstr m)]).run P w := by
  have hf := fun W => Lib.run_firstCells_string (P := P) W 1 (zstr m)
  rw [zstr_size] at hf
  have hzc := zeroCells_u8 m
  have hwr : IntKind.i64.wrap (m : Int) = (m : Int) := by rw [IntWalk.i64_left]; exact IntWalk.wrap64_in _ (by omega)
  have h0 : ¬ ((m : Int) < 0) := by omega
  have h1 : ¬ (281474976710656 < (m : Int)) := by omega
  have h2 : ¬ (9223372036854775807 < ((n : Int) + (m : Int))) := by omega
  have hm0 : ¬ m = 0 := by omega
  have hm1 : ¬ ((m : Int) ≤ 0) := by omega
  by_cases hr : n + m ≤ c
  · simp [Builtin.append_, run_underlying ht, run_underlying hti, run_underlying htu, sizeOf, typeInfo, zeroValue, hi, hz, hsize, hby, Builtin.lenOf, zstr_size, asInt, asIntOf, hf, hwr, hr, hm0, h0, h1, hzc]
  · have hf2 := growslice_fits (need := n + m) (old := c) (bytes := 1) (by omega) (by omega)
    rw [Nat.mul_one] at hf2
    have h48 : ¬ (281474976710656 < Builtin.nextslicecap (n + m) c) := by omega
    simp [Builtin.append_, run_underlying ht, run_underlying hti, run_underlying htu, sizeOf, typeInfo, zeroValue, hi, hz, hsize, hby, Builtin.lenOf, zstr_size, asInt, asIntOf, hf, hwr, hr, hm0, h0, h1, h2, h48, hzc]
theorem wpList_append_zeros {ops : Array Oper} {rest : List Oper} {o : Oper} {a : Act} {Q : Exit → Act → World → Prop} (hgd : o.guard = none) (sl x : Operand) (t ti : TypeId)
    (ho : o.op = .call { callee := .builtin .append, args := #[sl, x], argTypes := #[t, ti] })
    (base : Nat) (tu e : TypeId) (i : TypeInfo) (ht : P.underlying t = some (.slice e)) (hti : P.underlying ti = some (.int .i64)) (hu : P.underlying tu = some .string) (hi : P.info? e = some i) (hz : i.zero = some (.int .u8 0))
    (hsize : i.size = 1) (hby : i.bytes = 1)
    (v : Value) (n : Nat) (xs : List Value) (hs : a.eval sl = v) (hown : w.ownsRow base e 1 v n xs) (m : Nat) (z : Int) (hzm : z = (m : Int)) (hx : a.eval x = .int .i64 z)
    (hm0 : 0 < m) (hm : n + m ≤ 1099511627776) (hbase : base ≤ w.heap.size)
    (h : ∀ v' w', w'.ownsRow base e 1 v' (n + m) (xs ++ u8s (zbytes m)) → w.grownBy w' v.ownBlock → wpList P ops Q rest (a.put o.dst v') w') : wpList P ops Q (o :: rest) a w := by
  subst hzm
  refine wpList_plain hgd fun K hK => ?_
  obtain ⟨v', w', hr, h2, h3, h4⟩ := Lib.run_append_own_string (P := P) w base t tu o.type e i ht hu hi hz hsize hby v n xs hown (zstr m) (by rw [zstr_size]; unfold maxLen; omega) (by rw [zstr_size]; omega) hbase
  rw [zstr_size, zstr_cells] at h2
  obtain ⟨A, c, rfl, _⟩ := own_slice hown
  rw [← run_append_zeros_eq w t ti tu o.type e i ht hti hu hi hz hsize hby A n c m hm0 hm] at hr
  unfold Oper.wp execOp
  simp only [ho, resolve, invoke, builtin, Sem.run_bind, Sem.run_pure, Result.andThen_ok, List.map_toArray, List.map_cons, List.map_nil, hs, hx, hr]
  exact hK _ _ (h v' w' h2 h3)
end
end Go.Proofs.YtnopljanpjmbgaaGreat
namespace Go.Proofs.YtnopljanpjmbgaaGreat
open Go.RowKit
set_option linter.unusedVariables false
section
variable {P : Program} (w : World)
theorem wpList_append_full {ops : Array Oper} {rest : List Oper} {o : Oper} {a : Act} {Q : Exit → Act → World → Prop} (hgd : Region.wanted o (yielded ops a.tmps) = true) (s x : Operand) (t : TypeId)
    (ho : o.op = .call { callee := .builtin .append, args := #[s, x], argTypes := #[t, t] })
    (base : Nat) (e : TypeId) (i : TypeInfo) (ht : P.underlying t = some (.slice e)) (hi : P.info? e = some i) (hz : i.zero = some (.int .u8 0))
    (hsize : i.size = 1) (hby : i.bytes = 1)
    (b : Addr) (n c B : Nat) (l : List (BitVec 8)) (hs : a.eval s = .slice (some b) n c) (hl : Reads w B 1 (some b) n (u8s l))
    (ad : Addr) (m k B' : Nat) (l' : List (BitVec 8)) (hx : a.eval x = .slice (some ad) m k) (hr : Reads w B' 1 (some ad) m (u8s l')) (hm : 0 < m) (hn : 0 < n)
    (hfull : c < n + m) (hsmall : n + m ≤ 1099511627776) (hbase : base ≤ w.heap.size)
    (h : ∀ v' w', w'.ownsRow base e 1 v' (n + m) (u8s (l ++ l')) → Below w.heap.size w w' → (∀ k, v'.ownBlock = some k → w.heap.size ≤ k) → wpList P ops Q rest (a.put o.dst v') w') : wpList P ops Q (o :: rest) a w := by
  obtain ⟨b', e1, _, hb'⟩ := hl.2 hn
  injection e1 with e1
  subst e1
  obtain ⟨ad', e2, _, had'⟩ := hr.2 hm
  injection e2 with e2
  subst e2
  have hr' := run_append_grow (P := P) w t o.type e i (.int .u8 0) ht hi hz b n c (u8s l) (by rw [hsize]; exact hl.1) hb' ad m k (u8s l') (by rw [hsize]; exact hr.1) had' hfull (by omega) (by rw [hby]; exact growslice_fits hfull (by omega))
  have hge := grownCap_ge w (n + m) c e
  have hcm : grownCap w (n + m) c e ≤ maxLen := grownCap_le_maxLen w (n + m) c e (by unfold maxLen; omega)
  have hlen : (u8s l ++ u8s l').length = n + m := by
    have h1 := hl.1; have h2 := hr.1
    rw [List.length_append]; omega
  refine wpList_step fun K hK => ?_
  rw [if_pos hgd]
  unfold Oper.wp execOp
  simp only [ho, resolve, invoke, builtin, Sem.run_bind, Sem.run_pure, Result.andThen_ok, List.map_toArray, List.map_cons, List.map_nil, hs, hx, hr']
  refine hK _ _ (h _ _ ⟨by rw [← u8s_append, hlen]; omega, .inr ⟨w.heap.size, _, _, rfl, hbase, heap_alloc_new w.drew _, hge, hcm, ?_, ?_⟩⟩ ⟨rfl, rfl, rfl, by simp, fun q hq => heap_alloc_old w.drew _ hq⟩ (fun q hq => by simp [Value.ownBlock] at hq; omega))
  · have h1 := hl.1; have h2 := hr.1
    have hz1 : (Value.int IntKind.u8 0).cells.size = 1 := rfl
    simp only [Array.size_append, List.size_toArray, size_zeroCells, hz1]
    omega
  · simp only [Array.toList_append, List.append_assoc]
    rw [← List.append_assoc, u8s_append]
    have : (u8s (l ++ l')).length = (n + m) * 1 := by rw [← u8s_append, hlen]; omega
    rw [← this]
    exact List.take_left
end
end Go.Proofs.YtnopljanpjmbgaaGreat
namespace Drum
set_option linter.unusedVariables false
/-- The bytes of a number, the lowest first. -/
def le (w n : Nat) : List (BitVec 8) := (List.range w).map fun i => BitVec.ofNat 8 (n / 256 ^ i)
theorem le_length (w n : Nat) : (le w n).length = w := by simp [le]
theorem le_snoc (w n : Nat) : le (w + 1) n = le w n ++ [BitVec.ofNat 8 (n / 256 ^ w)] := by simp [le, List.range_succ]
theorem le_zero (n : Nat) : le 0 n = [] := by simp [le]
/-- The number of some bytes from a place on. -/
def numTo (l : List (BitVec 8)) (a : Nat) : Nat → Nat
  | 0 => 0
  | i + 1 => numTo l a i + (l.getD (a + i) 0#8).toNat * 256 ^ i
theorem numTo_lt (l : List (BitVec 8)) (a : Nat) : ∀ w, numTo l a w < 256 ^ w := by
  intro w
  induction w with
  | zero => simp [numTo]
  | succ w ih =>
    have h1 := (l.getD (a + w) 0#8).isLt
    have h2 : (l.getD (a + w) 0#8).toNat * 256 ^ w ≤ 255 * 256 ^ w := Nat.mul_le_mul_right _ (by omega)
    show numTo l a w + (l.getD (a + w) 0#8).toNat * 256 ^ w < _
    rw [Nat.pow_succ]; omega
theorem numTo_congr {l m : List (BitVec 8)} {a b : Nat} : ∀ w, (∀ i, i < w → l.getD (a + i) 0#8 = m.getD (b + i) 0#8) → numTo l a w = numTo m b w := by
  intro w
  induction w with
  | zero => intro _; rfl
  | succ w ih =>
    intro h
    show numTo l a w + (l.getD (a + w) 0#8).toNat * 256 ^ w = numTo m b w + (m.getD (b + w) 0#8).toNat * 256 ^ w
    rw [ih (fun i hi => h i (by omega)), h w (by omega)]
theorem numTo_le (n : Nat) : ∀ w v, w ≤ v → numTo (le v n) 0 w = n % 256 ^ w := by
  intro w
  induction w with
  | zero => intro v _; simp [numTo, Nat.mod_one]
  | succ w ih =>
    intro v hv
    show numTo (le v n) 0 w + ((le v n).getD (0 + w) 0#8).toNat * 256 ^ w = _
    have e : (le v n).getD (0 + w) 0#8 = BitVec.ofNat 8 (n / 256 ^ w) := by
      have hw : w < v := by omega
      simp [le, List.getD_eq_getElem?_getD, hw]
    rw [ih v (by omega), e, BitVec.toNat_ofNat, Nat.mul_comm]
    exact (Nat.mod_pow_succ (b := 256)).symm
theorem numTo_part (p s : List (BitVec 8)) (w n : Nat) (a : Nat) (ha : a = p.length) (hn : n < 256 ^ w) : numTo (p ++ (le w n ++ s)) a w = n := by
  subst ha
  have h := numTo_congr (l := p ++ (le w n ++ s)) (m := le w n) (a := p.length) (b := 0) w (by
    intro i hi
    simp only [List.getD_eq_getElem?_getD]
    rw [List.getElem?_append_right (by omega), List.getElem?_append_left (by rw [le_length]; omega)]
    simp)
  rw [h, numTo_le n w w (Nat.le_refl _), Nat.mod_eq_of_lt hn]
theorem numTo_div (l : List (BitVec 8)) (a : Nat) (w i : Nat) (hi : i < w) : BitVec.ofNat 8 (numTo l a w / 256 ^ i) = l.getD (a + i) 0#8 := by
  induction w with
  | zero => omega
  | succ w ih =>
    show BitVec.ofNat 8 ((numTo l a w + (l.getD (a + w) 0#8).toNat * 256 ^ w) / 256 ^ i) = _
    by_cases he : i = w
    · subst he
      rw [Nat.add_mul_div_right _ _ (Nat.pow_pos (by omega)), Nat.div_eq_of_lt (numTo_lt l a i), Nat.zero_add]
      simp
    · have hlt : i < w := by omega
      rw [← ih hlt]
      have e : 256 ^ w = 256 ^ (w - i - 1) * 256 * 256 ^ i := by
        rw [← Nat.pow_succ, ← Nat.pow_add]; congr 1; omega
      rw [e, ← Nat.mul_assoc, ← Nat.mul_assoc, Nat.add_mul_div_right _ _ (Nat.pow_pos (by omega))]
      apply BitVec.eq_of_toNat_eq
      simp only [BitVec.toNat_ofNat]
      omega
theorem le_numTo (l : List (BitVec 8)) (a w : Nat) (h : a + w ≤ l.length) : le w (numTo l a w) = (l.drop a).take w := by
  apply List.ext_getElem
  · simp [le]; omega
  · intro i h1 h2
    rw [le_length] at h1
    have := numTo_div l a w i h1
    simp only [le, List.getElem_map, List.getElem_range, this, List.getElem_take, List.getElem_drop]
    rw [List.getD_eq_getElem?_getD, List.getElem?_eq_getElem (by omega)]; rfl
/-- A configuration, a superblock. -/
structure Cf where
  slots : Int
  size : Int
  reserve : Int
  work : Int
  key : Int
  value : Int
  policy : Int
def Cf.nums (c : Cf) : List Int := [c.slots, c.size, c.reserve, c.work, c.key, c.value, c.policy]
/-- The numbers are ints of 64 bits. -/
def Cf.wf (c : Cf) : Prop := ∀ n ∈ c.nums, -9223372036854775808 ≤ n ∧ n ≤ 9223372036854775807
def Cf.ok (c : Cf) : Prop := (2 ≤ c.reserve ∧ c.reserve ≤ 8) ∧ (c.reserve + 2 ≤ c.slots ∧ c.slots ≤ 32) ∧ (1 ≤ c.key ∧ c.key ≤ 32) ∧ (0 ≤ c.value ∧ c.value ≤ 512) ∧
  (32 + c.key + c.value ≤ c.size ∧ c.size ≤ 8192) ∧ (2 * (32 + c.key + c.value) ≤ c.work ∧ c.work ≤ 65536) ∧ (1 ≤ c.policy ∧ c.policy ≤ 2)
instance (c : Cf) : Decidable c.ok := by unfold Cf.ok; infer_instance
theorem Cf.ok_nums {c : Cf} (h : c.ok) : ∀ n ∈ c.nums, 0 ≤ n ∧ n ≤ 65536 := by
  obtain ⟨h1, h2, h3, h4, h5, h6, h7⟩ := h
  intro n hn
  simp only [Cf.nums, List.mem_cons, List.not_mem_nil, or_false] at hn
  rcases hn with rfl | rfl | rfl | rfl | rfl | rfl | rfl <;> omega
structure Bk where
  epoch : Int
  conf : Cf
def Bk.ok (b : Bk) : Prop := (1 ≤ b.epoch ∧ b.epoch ≤ 1099511627776) ∧ b.conf.ok
instance (b : Bk) : Decidable b.ok := by unfold Bk.ok; infer_instance
def Bk.wf (b : Bk) : Prop := (-9223372036854775808 ≤ b.epoch ∧ b.epoch ≤ 9223372036854775807) ∧ b.conf.wf
def bk0 : Bk := ⟨0, ⟨0, 0, 0, 0, 0, 0, 0⟩⟩
def drum : List (BitVec 8) := [68#8, 82#8, 85#8, 77#8]
/-- The bytes of the first numbers. -/
def numBytes (l : List Int) : List (BitVec 8) := l.flatMap fun n => le 4 n.toNat
theorem numBytes_length (l : List Int) : (numBytes l).length = 4 * l.length := by
  induction l with
  | nil => rfl
  | cons n l ih =>
    show (le 4 n.toNat ++ numBytes l).length = _
    rw [List.length_append, le_length, ih, List.length_cons]; omega
theorem numBytes_append (l m : List Int) : numBytes (l ++ m) = numBytes l ++ numBytes m := by simp [numBytes]
theorem numBytes_one (n : Int) : numBytes [n] = le 4 n.toNat := by simp [numBytes]
def restOf (b : Bk) : List (BitVec 8) := drum ++ (le 8 b.epoch.toNat ++ (numBytes b.conf.nums ++ List.replicate 20 0#8))
def encOf (b : Bk) : List (BitVec 8) := le 4 (csum (restOf b)).toNat ++ restOf b
theorem restOf_length (b : Bk) : (restOf b).length = 60 := by
  simp only [restOf, List.length_append, le_length, numBytes_length, List.length_replicate]; rfl
theorem encOf_length (b : Bk) : (encOf b).length = 64 := by
  simp only [encOf, List.length_append, le_length, restOf_length]
/-- The superblock that bytes say. -/
def readOf (l : List (BitVec 8)) : Bk := ⟨numTo l 8 8, ⟨numTo l 16 4, numTo l 20 4, numTo l 24 4, numTo l 28 4, numTo l 32 4, numTo l 36 4, numTo l 40 4⟩⟩
/-- What is decoded: the error's number, and the superblock. -/
noncomputable def decOf (l : List (BitVec 8)) : Int × Bk :=
  open Classical in
  if l.length < 64 then (14, bk0) else
  if csum ((l.take 64).drop 4) ≠ BitVec.ofNat 32 (numTo l 0 4) then (15, bk0) else
  if 1099511627776 < numTo l 8 8 then (8, bk0) else
  if (readOf l).ok ∧ encOf (readOf l) = l.take 64 then (0, readOf l) else (8, bk0)
theorem numTo_append (l m : List (BitVec 8)) (a w : Nat) (h : a + w ≤ l.length) : numTo (l ++ m) a w = numTo l a w := by
  refine numTo_congr w fun i hi => ?_
  simp only [List.getD_eq_getElem?_getD]
  rw [List.getElem?_append_left (by omega)]
theorem readOf_append (l m : List (BitVec 8)) (h : 44 ≤ l.length) : readOf (l ++ m) = readOf l := by
  simp only [readOf]
  rw [numTo_append l m 8 8 (by omega), numTo_append l m 16 4 (by omega), numTo_append l m 20 4 (by omega), numTo_append l m 24 4 (by omega), numTo_append l m 28 4 (by omega),
    numTo_append l m 32 4 (by omega), numTo_append l m 36 4 (by omega), numTo_append l m 40 4 (by omega)]
theorem decOf_append (l m : List (BitVec 8)) (h : 64 ≤ l.length) : decOf (l ++ m) = decOf l := by
  unfold decOf
  have e1 : (l ++ m).take 64 = l.take 64 := by rw [List.take_append_of_le_length h]
  have e2 : ¬ (l ++ m).length < 64 := by rw [List.length_append]; omega
  rw [e1, if_neg e2, if_neg (show ¬ l.length < 64 by omega), numTo_append l m 0 4 (by omega), numTo_append l m 8 8 (by omega), readOf_append l m (by omega)]
theorem numTo_eq {l : List (BitVec 8)} {p s : List (BitVec 8)} {w n : Nat} (a : Nat) (h : l = p ++ (le w n ++ s)) (ha : a = p.length) (hn : n < 256 ^ w) : numTo l a w = n := by
  rw [h]; exact numTo_part p s w n a ha hn
theorem readOf_enc (b : Bk) (h : b.ok) : readOf (encOf b) = b := by
  obtain ⟨he, hc⟩ := h
  have hn := Cf.ok_nums hc
  obtain ⟨e, ⟨n1, n2, n3, n4, n5, n6, n7⟩⟩ := b
  simp only [Cf.nums, List.mem_cons, List.not_mem_nil, or_false, forall_eq_or_imp, forall_eq] at hn
  obtain ⟨h1, h2, h3, h4, h5, h6, h7⟩ := hn
  simp only at he
  obtain ⟨s, hs, hl⟩ : ∃ s : List (BitVec 8), s.length = 4 ∧ encOf ⟨e, ⟨n1, n2, n3, n4, n5, n6, n7⟩⟩ = s ++ (drum ++ (le 8 e.toNat ++ (le 4 n1.toNat ++ (le 4 n2.toNat ++ (le 4 n3.toNat ++ (le 4 n4.toNat ++ (le 4 n5.toNat ++ (le 4 n6.toNat ++ (le 4 n7.toNat ++ List.replicate 20 0#8))))))))) :=
    ⟨le 4 (csum (restOf ⟨e, ⟨n1, n2, n3, n4, n5, n6, n7⟩⟩)).toNat, le_length _ _, by
      unfold encOf
      conv => lhs; arg 2; unfold restOf
      simp [numBytes, Cf.nums]⟩
  have hd : drum.length = 4 := rfl
  unfold readOf
  rw [numTo_eq 8 (p := s ++ drum) (w := 8) (n := e.toNat) (by rw [hl]; simp only [List.append_assoc]; rfl) (by simp [hs, hd]) (by omega)]
  rw [numTo_eq 16 (p := s ++ (drum ++ le 8 e.toNat)) (w := 4) (n := n1.toNat) (by rw [hl]; simp only [List.append_assoc]; rfl) (by simp [hs, hd, le_length]) (by omega)]
  rw [numTo_eq 20 (p := s ++ (drum ++ (le 8 e.toNat ++ le 4 n1.toNat))) (w := 4) (n := n2.toNat) (by rw [hl]; simp only [List.append_assoc]; rfl) (by simp [hs, hd, le_length]) (by omega)]
  rw [numTo_eq 24 (p := s ++ (drum ++ (le 8 e.toNat ++ (le 4 n1.toNat ++ le 4 n2.toNat)))) (w := 4) (n := n3.toNat) (by rw [hl]; simp only [List.append_assoc]; rfl) (by simp [hs, hd, le_length]) (by omega)]
  rw [numTo_eq 28 (p := s ++ (drum ++ (le 8 e.toNat ++ (le 4 n1.toNat ++ (le 4 n2.toNat ++ le 4 n3.toNat))))) (w := 4) (n := n4.toNat) (by rw [hl]; simp only [List.append_assoc]; rfl) (by simp [hs, hd, le_length]) (by omega)]
  rw [numTo_eq 32 (p := s ++ (drum ++ (le 8 e.toNat ++ (le 4 n1.toNat ++ (le 4 n2.toNat ++ (le 4 n3.toNat ++ le 4 n4.toNat)))))) (w := 4) (n := n5.toNat) (by rw [hl]; simp only [List.append_assoc]; rfl) (by simp [hs, hd, le_length]) (by omega)]
  rw [numTo_eq 36 (p := s ++ (drum ++ (le 8 e.toNat ++ (le 4 n1.toNat ++ (le 4 n2.toNat ++ (le 4 n3.toNat ++ (le 4 n4.toNat ++ le 4 n5.toNat))))))) (w := 4) (n := n6.toNat) (by rw [hl]; simp only [List.append_assoc]; rfl) (by simp [hs, hd, le_length]) (by omega)]
  rw [numTo_eq 40 (p := s ++ (drum ++ (le 8 e.toNat ++ (le 4 n1.toNat ++ (le 4 n2.toNat ++ (le 4 n3.toNat ++ (le 4 n4.toNat ++ (le 4 n5.toNat ++ le 4 n6.toNat)))))))) (w := 4) (n := n7.toNat) (by rw [hl]; simp only [List.append_assoc]; rfl) (by simp [hs, hd, le_length]) (by omega)]
  simp only [Int.toNat_of_nonneg, h1.1, h2.1, h3.1, h4.1, h5.1, h6.1, h7.1, show 0 ≤ e by omega]
theorem encOf_sum (b : Bk) : csum ((encOf b).drop 4) = BitVec.ofNat 32 (numTo (encOf b) 0 4) := by
  have h1 : (encOf b).drop 4 = restOf b := by
    unfold encOf
    rw [List.drop_append_of_le_length (by rw [le_length]; omega), List.drop_of_length_le (by rw [le_length]; omega), List.nil_append]
  have h2 : numTo (encOf b) 0 4 = (csum (restOf b)).toNat := numTo_part [] (restOf b) 4 _ 0 rfl (by have := (csum (restOf b)).isLt; omega)
  rw [h1, h2, BitVec.ofNat_toNat, BitVec.setWidth_eq]
theorem decOf_enc (b : Bk) (h : b.ok) (more : List (BitVec 8)) : decOf (encOf b ++ more) = (0, b) := by
  rw [decOf_append _ _ (by rw [encOf_length]; omega)]
  have ht : (encOf b).take 64 = encOf b := List.take_of_length_le (by rw [encOf_length]; omega)
  have he := congrArg Bk.epoch (readOf_enc b h)
  have hr := readOf_enc b h
  unfold decOf
  rw [if_neg (by rw [encOf_length]; omega), ht, if_neg (fun h => h (encOf_sum b)), if_neg, hr, if_pos ⟨h, rfl⟩]
  simp only [readOf] at he
  have := h.1
  omega
theorem decOf_short (l : List (BitVec 8)) (h : l.length < 64) : decOf l = (14, bk0) := by
  unfold decOf; rw [if_pos h]
theorem decOf_sum (l : List (BitVec 8)) (h : 64 ≤ l.length) (hs : csum ((l.take 64).drop 4) ≠ BitVec.ofNat 32 (numTo l 0 4)) : decOf l = (15, bk0) := by
  unfold decOf; rw [if_neg (by omega), if_pos hs]
theorem decOf_cases (l : List (BitVec 8)) : (decOf l = (14, bk0) ∧ l.length < 64) ∨ (decOf l = (15, bk0) ∧ 64 ≤ l.length) ∨ (decOf l = (8, bk0) ∧ 64 ≤ l.length) ∨
    (decOf l = (0, readOf l) ∧ 64 ≤ l.length ∧ (readOf l).ok ∧ encOf (readOf l) = l.take 64) := by
  by_cases h1 : l.length < 64
  · exact .inl ⟨decOf_short l h1, h1⟩
  · by_cases h2 : csum ((l.take 64).drop 4) ≠ BitVec.ofNat 32 (numTo l 0 4)
    · exact .inr (.inl ⟨decOf_sum l (by omega) h2, by omega⟩)
    · unfold decOf
      rw [if_neg h1, if_neg h2]
      by_cases h3 : 1099511627776 < numTo l 8 8
      · rw [if_pos h3]; exact .inr (.inr (.inl ⟨rfl, by omega⟩))
      · rw [if_neg h3]
        by_cases h4 : (readOf l).ok ∧ encOf (readOf l) = l.take 64
        · rw [if_pos h4]; exact .inr (.inr (.inr ⟨rfl, by omega, h4.1, h4.2⟩))
        · rw [if_neg h4]; exact .inr (.inr (.inl ⟨rfl, by omega⟩))
end Drum
namespace Go.Proofs.YtnopljanpjmbgaaGreat
open Go.RowKit Drum
set_option linter.unusedVariables false
/-- The widths, in memory. -/
def widthCells : Array Value := #[.int .i64 1, .int .i64 2, .int .i64 4, .int .i64 8]
set_option maxHeartbeats 400000 in
theorem widths_any (w : World) :
    Calls Tryz.prog 97 #[] w fun e w' => e = .returned (.slice (some ⟨w.heap.size, 0, none⟩) 4 4) ∧ w' = w.alloc (.cells widthCells 3) := by
  go_enter Tryz.func97, Tryz.ntmps97
  go_wp2
  go_ret
  exact ⟨rfl, rfl⟩
set_option maxHeartbeats 1000000 in
theorem index_any (g : Nat) (k : Int) (j : Nat) (hj : (k = 4 ∧ j = 2) ∨ (k = 8 ∧ j = 3)) (w : World) (hb : Blk w g 3 widthCells) :
    Calls Tryz.prog 134 #[.slice (some ⟨g, 0, none⟩) 4 4, .int .i64 k] w fun e w' => e = .returned (.int .i64 (j : Int)) ∧ w = w' := by
  have h0 : w.cell? ⟨g, 0, none⟩ = some (.int .i64 1) := hb.cell 0
  have h1 : w.cell? ⟨g, 1, none⟩ = some (.int .i64 2) := hb.cell 1
  have h2 : w.cell? ⟨g, 2, none⟩ = some (.int .i64 4) := hb.cell 2
  have h3 : w.cell? ⟨g, 3, none⟩ = some (.int .i64 8) := hb.cell 3
  clear hb
  have hk : k = 4 ∨ k = 8 := by omega
  have hj3 : j ≤ 3 := by omega
  have HJ := Lib.hid hj
  clear hj
  go_enter Tryz.func134, Tryz.ntmps134
  go_wp2
  go_loopg [8] 4 (fun q v8 wr => ∃ i : Nat, i + q = 4 ∧ v8 = .int .i64 i ∧ i ≤ j ∧ w = wr)
  case atStart => exact ⟨0, rfl, rfl, by omega, rfl⟩
  case round =>
    obtain ⟨i, hi, rfl, hij, rfl⟩ := hrel
    have HI := Lib.hid hi
    clear hi
    rcases (show i = 0 ∨ i = 1 ∨ i = 2 ∨ i = 3 by omega) with rfl | rfl | rfl | rfl
    · rcases hk with rfl | rfl
      all_goals
        go_wp2
        go_roundg (gk - 1)
        case measure => have := HI.out; omega
        case rel => exact ⟨1, by have := HI.out; omega, by go_num, by have := HJ.out; omega, rfl⟩
    · rcases hk with rfl | rfl
      all_goals
        go_wp2
        go_roundg (gk - 1)
        case measure => have := HI.out; omega
        case rel => exact ⟨2, by have := HI.out; omega, by go_num, by have := HJ.out; omega, rfl⟩
    · rcases hk with rfl | rfl
      · go_wp2
        go_ret
        exact ⟨by rw [show j = 2 by have := HJ.out; omega]; rfl, rfl⟩
      · go_wp2
        go_roundg (gk - 1)
        case measure => have := HI.out; omega
        case rel => exact ⟨3, by have := HI.out; omega, by go_num, by have := HJ.out; omega, rfl⟩
    · rcases hk with rfl | rfl
      · exfalso; have := HJ.out; omega
      · go_wp2
        go_ret
        exact ⟨by rw [show j = 3 by have := HJ.out; omega]; rfl, rfl⟩
set_option maxHeartbeats 400000 in
theorem contains_any (g : Nat) (k : Int) (hk : k = 4 ∨ k = 8) (w : World) (hb : Blk w g 3 widthCells) :
    Calls Tryz.prog 96 #[.slice (some ⟨g, 0, none⟩) 4 4, .int .i64 k] w fun e w' => e = .returned (.bool true) ∧ w = w' := by
  obtain ⟨j, hj⟩ : ∃ j : Nat, (k = 4 ∧ j = 2) ∨ (k = 8 ∧ j = 3) := by
    rcases hk with rfl | rfl
    · exact ⟨2, .inl ⟨rfl, rfl⟩⟩
    · exact ⟨3, .inr ⟨rfl, rfl⟩⟩
  have H := Lib.hid (index_any g k j hj w hb)
  clear hj hb hk
  go_enter Tryz.func96, Tryz.ntmps96
  go_wp2_with fail
  refine H.out.mono ?_
  rintro e w1 ⟨rfl, rfl⟩
  go_wp2_with fail
  go_ret
  exact ⟨rfl, rfl⟩
set_option maxHeartbeats 400000 in
theorem fits_any (n : Nat) (k : Nat) (hk : k = 4 ∨ k = 8) (hn : n < 256 ^ k) (w : World) :
    Calls Tryz.prog 98 #[.int .u64 (n : Int), .int .i64 (k : Int)] w fun e w' => e = .returned (.bool true) ∧ Below w.heap.size w w' := by
  rcases hk with rfl | rfl
  · have hq : ((n : Int) / 4294967296 == 0) = true := by rw [beq_iff_eq]; omega
    clear hn
    go_enter Tryz.func98, Tryz.ntmps98
    go_wp2_with fail
    refine (widths_any _).mono ?_
    rintro e w1 ⟨rfl, rfl⟩
    go_wp2_with fail
    refine (contains_any w.heap.size 4 (.inl rfl) _ (Blk.new w _ _)).mono ?_
    rintro e w1 ⟨rfl, rfl⟩
    go_wp2_with fail
    go_ret
    exact ⟨rfl, by go_grown⟩
  · clear hn
    go_enter Tryz.func98, Tryz.ntmps98
    go_wp2_with fail
    refine (widths_any _).mono ?_
    rintro e w1 ⟨rfl, rfl⟩
    go_wp2_with fail
    refine (contains_any w.heap.size 8 (.inr rfl) _ (Blk.new w _ _)).mono ?_
    rintro e w1 ⟨rfl, rfl⟩
    go_wp2_with fail
    go_ret
    exact ⟨rfl, by go_grown⟩
end Go.Proofs.YtnopljanpjmbgaaGreat
namespace Go.Proofs.YtnopljanpjmbgaaGreat
open Go.RowKit Drum
set_option linter.unusedVariables false
theorem shr8j (x j : Nat) : ((x : Int) / (2 : Int) ^ (8 * j)) = ((x / 256 ^ j : Nat) : Int) := by
  have e : (2 : Nat) ^ (8 * j) = 256 ^ j := by rw [Nat.pow_mul]
  have : ((2 : Int) ^ (8 * j)) = ((256 ^ j : Nat) : Int) := by rw [← e]; simp
  rw [this]; simp
theorem byte_of (x j : Nat) : (((x / 256 ^ j : Nat) : Int)) % (256 : Int) = n8 (BitVec.ofNat 8 (x / 256 ^ j)) := by
  unfold n8; rw [BitVec.toNat_ofNat]; omega
theorem byte_of' (x j : Nat) : (x : Int) / 256 ^ j % 256 = n8 (BitVec.ofNat 8 (x / 256 ^ j)) := by
  rw [← byte_of, Int.natCast_ediv, Int.natCast_pow]; rfl
theorem wpList_shr_u64 {P : Program} {ops : Array Oper} {rest : List Oper} {o : Oper} {a : Act} {w : World} {Q : Exit → Act → World → Prop} (hg : o.guard = none)
    (t t2 : TypeId) (xo y : Operand) (x j : Nat) (hj : j < 8) (ky : IntKind) (ho : o.op = .binOp .shr t xo y t2) (hx : a.eval xo = .int .u64 (x : Int)) (hy : a.eval y = .int ky (8 * (j : Int)))
    (h : wpList P ops Q rest (a.put o.dst (.int .u64 ((x / 256 ^ j : Nat) : Int))) w) : wpList P ops Q (o :: rest) a w := by
  refine wpList_plain hg fun K hK => ?_
  have hK' := hK _ _ h
  unfold Oper.wp execOp
  have h0 : 0 ≤ 8 * (j : Int) := by omega
  have h1 : 8 * (j : Int) ≤ 64 := by omega
  have ht : (8 * (j : Int)).toNat = 8 * j := by omega
  simp only [ho, hx, hy]
  simp [go_sem, ht]
  rw [← shr8j] at hK'
  exact hK'
theorem shl8j (x j : Nat) (hx : x < 256) (hj : j < 8) : IntKind.u64.wrap ((x : Int) * (2 : Int) ^ (8 * j)) = ((x * 256 ^ j : Nat) : Int) := by
  have e : (2 : Nat) ^ (8 * j) = 256 ^ j := by rw [Nat.pow_mul]
  have e2 : ((2 : Int) ^ (8 * j)) = ((256 ^ j : Nat) : Int) := by rw [← e]; simp
  have h1 : x * 256 ^ j < 256 ^ (j + 1) := by
    rw [Nat.pow_succ, Nat.mul_comm]; exact (Nat.mul_lt_mul_left (Nat.pow_pos (by omega))).2 hx
  have h2 : 256 ^ (j + 1) ≤ 256 ^ 8 := Nat.pow_le_pow_right (by omega) (by omega)
  rw [e2, ← Int.natCast_mul]
  generalize x * 256 ^ j = q at h1
  simp only [IntKind.wrap, IntKind.signed, IntKind.bits]
  simp
  omega
theorem wpList_shl_u64 {P : Program} {ops : Array Oper} {rest : List Oper} {o : Oper} {a : Act} {w : World} {Q : Exit → Act → World → Prop} (hg : o.guard = none)
    (t t2 : TypeId) (xo y : Operand) (x j : Nat) (hx8 : x < 256) (hj : j < 8) (ky : IntKind) (ho : o.op = .binOp .shl t xo y t2) (hx : a.eval xo = .int .u64 (x : Int)) (hy : a.eval y = .int ky (8 * (j : Int)))
    (h : wpList P ops Q rest (a.put o.dst (.int .u64 ((x * 256 ^ j : Nat) : Int))) w) : wpList P ops Q (o :: rest) a w := by
  refine wpList_plain hg fun K hK => ?_
  have hK' := hK _ _ h
  unfold Oper.wp execOp
  have h0 : 0 ≤ 8 * (j : Int) := by omega
  have h1 : 8 * (j : Int) ≤ 64 := by omega
  have ht : (8 * (j : Int)).toNat = 8 * j := by omega
  have hs := shl8j x j hx8 hj
  simp only [ho, hx, hy]
  simp [go_sem, ht]
  first | exact hK' | (rw [← hs] at hK'; simpa [go_sem] using hK')
set_option maxHeartbeats 1000000 in
theorem cappend_any (A : Option Addr) (n c B : Nat) (l : List (BitVec 8)) (x k : Nat) (hk : k = 4 ∨ k = 8) (hx : x < 256 ^ k) (w : World) (hr : Reads w B 1 A n (u8s l)) (hB : B ≤ w.heap.size) (hn : n ≤ 60000) (hz : A = none → c = 0) :
    Calls Tryz.prog 47 #[.slice A n c, .int .u64 (x : Int), .int .i64 (k : Int)] w fun e w' => ∃ v, e = .returned (.tuple #[v, .int .i64 0]) ∧ w'.ownsRow w.heap.size 5 1 v (n + k) (u8s (l ++ le k x)) ∧ Below w.heap.size w w' := by
  obtain ⟨i0, hi0, hz0, hz1, hz2⟩ := info_parts u8_info
  have HR := Lib.hid hr
  have HF := Lib.hid (fun W => fits_any x k hk hx W)
  have HC := Lib.hid (fun g W hb => contains_any g k (by rcases hk with rfl | rfl <;> simp) W hb)
  have hk8 : k ≤ 8 := by omega
  clear hr hx hk
  go_enter Tryz.func47, Tryz.ntmps47
  go_wp2_with fail
  refine (widths_any _).mono ?_
  rintro e w1 ⟨rfl, rfl⟩
  go_wp2_with fail
  refine (HC.out w.heap.size _ (Blk.new w _ _)).mono ?_
  rintro e w1 ⟨rfl, rfl⟩
  go_wp2_with fail
  refine (HF.out _).mono ?_
  rintro e w1 ⟨rfl, hb1⟩
  have HB1 := Lib.hid (((Below.refl w.heap.size w).alloc (Nat.le_refl _) (.cells widthCells 3)).trans (hb1.mono (by simp)))
  clear hb1
  go_wp2_with fail
  refine (clone_any A n c B l w1 (HR.out.below (HB1.out.mono hB) : Reads w1 B 1 A n (u8s l)) (Nat.le_trans hB HB1.out.size) (by omega) hz).mono ?_
  rintro e w2 ⟨v, rfl, hown, hb2⟩
  have HO := Lib.hid (own_base (base' := w.heap.size) hown (fun k hk => by have := (hown.lt k hk).1; have := HB1.out.size; omega))
  have HB2 := Lib.hid (bt HB1.out hb2)
  clear hown hb2 HF HC HR
  have hk4 : k ≤ 8 := hk8
  go_wp2_with fail
  go_loopg [8, 23] k (fun q v8 v23 wr => ∃ j : Nat, j + q = k ∧ v23 = .int .i64 j ∧ wr.ownsRow w.heap.size 5 1 v8 (n + j) (u8s (l ++ le j x)) ∧ Below w.heap.size w wr)
  case atStart => exact ⟨0, by omega, rfl, by rw [le_zero, List.append_nil]; exact HO.out, HB2.out⟩
  case round =>
    obtain ⟨j, hj, rfl, ho, hb⟩ := hrel
    have hj' : j ≤ k := by omega
    have HJ := Lib.hid hj
    have HO := Lib.hid ho
    have HB := Lib.hid hb
    clear hj ho hb
    by_cases hlt : j < k
    · obtain ⟨wo, rfl⟩ : ∃ wo : World, wo = wr := ⟨_, rfl⟩
      have HN := Lib.hid (reads_new wo 5 #[.int .u8 ((x : Int) / 256 ^ j % 256)] (0, 0) [BitVec.ofNat 8 (x / 256 ^ j)] 1 rfl (by rw [byte_of']; rfl))
      go_wp2_with (first
        | (with_reducible refine wpList_shr_u64 rfl _ _ _ _ x j (by omega) _ rfl rfl rfl ?_)
        | (at_builtin
           refine wpList_append_g _ rfl (.tmp 26) (.tmp 32) _ rfl w.heap.size 5 i0 _ 1 1 Tryz.underlying23 hi0 hz0 hz1 hz2 rfl (by omega) _ (n + j) (u8s (l ++ le j x)) rfl
             (own_below' HO.out (ba (Below.refl _ _) _)) (wo.heap.size + 1) (some ⟨wo.heap.size, 0, none⟩) 1 1 (u8s [BitVec.ofNat 8 (x / 256 ^ j)]) rfl HN.out (u8s_one _) (by simp only [maxLen]; omega) (by omega) (by simp; have := HB.out.size; omega) ?_
           intro v1 w6 hown1 hg1 hat1
           rw [u8s_append, List.append_assoc, ← le_snoc] at hown1
           have HO1 := Lib.hid hown1
           have HB6 := Lib.hid ((ba HB.out (.cells #[.int .u8 ((x : Int) / 256 ^ j % 256)] 5)).grown hg1 (by simp; have := HB.out.size; omega) (fun q hq => (HO.out.lt q hq).1))
           clear hown1 hg1 hat1))
      go_roundg (gk - 1)
      case measure => have := HJ.out; omega
      case rel => exact ⟨j + 1, by have := HJ.out; omega, by go_num, by rw [show n + (j + 1) = n + j + 1 by omega]; exact HO1.out, HB6.out⟩
    · have e8 : j = k := by omega
      subst e8
      go_wp2_with fail
      go_ret2
      exact ⟨_, rfl, HO.out, HB.out⟩
theorem or_step (l : List (BitVec 8)) (a j : Nat) (hj : j < 8) (b : BitVec 8) (hb : b = l.getD (a + j) 0#8) :
    bits .or .u64 (numTo l a j : Int) ((b.toNat * 256 ^ j : Nat) : Int) = (numTo l a (j + 1) : Int) := by
  subst hb
  have h1 := numTo_lt l a j
  have h2 : (l.getD (a + j) 0#8).toNat * 256 ^ j < 256 ^ (j + 1) := by
    rw [Nat.pow_succ, Nat.mul_comm]; exact (Nat.mul_lt_mul_left (Nat.pow_pos (by omega))).2 (l.getD (a + j) 0#8).isLt
  have h3 : 256 ^ (j + 1) ≤ 256 ^ 8 := Nat.pow_le_pow_right (by omega) (by omega)
  have h4 : 256 ^ j ≤ 256 ^ 8 := Nat.pow_le_pow_right (by omega) (by omega)
  rw [u64_or_nat _ _ (by omega) (by omega)]
  congr 1
  show _ = numTo l a j + (l.getD (a + j) 0#8).toNat * 256 ^ j
  have e : (256 : Nat) ^ j = 2 ^ (8 * j) := by rw [Nat.pow_mul]
  rw [e] at h1 ⊢
  rw [Nat.or_comm, Nat.mul_comm, ← Nat.two_pow_add_eq_or_of_lt h1]; exact Nat.add_comm _ _
theorem getD_of {l : List (BitVec 8)} {k : Nat} (hk : k < l.length) : l[k] = l.getD k 0#8 := by
  rw [List.getD_eq_getElem?_getD, List.getElem?_eq_getElem hk]; rfl
set_option maxHeartbeats 1000000 in
theorem uint_any (A : Option Addr) (n c B : Nat) (l : List (BitVec 8)) (a k : Nat) (hk : k = 4 ∨ k = 8) (ha : a + k ≤ n) (w : World) (hr : Reads w B 1 A n (u8s l)) (hB : B ≤ w.heap.size) (hn : n = l.length) (hm : n ≤ maxLen) :
    Calls Tryz.prog 131 #[.slice A n c, .int .i64 (a : Int), .int .i64 (k : Int)] w fun e w' => e = .returned (.tuple #[.int .u64 (numTo l a k : Int), .int .i64 0]) ∧ Below w.heap.size w w' := by
  unfold maxLen at hm
  have HR := Lib.hid hr
  have HN := Lib.hid hn
  have HC := Lib.hid (fun g W hb => contains_any g k (by rcases hk with rfl | rfl <;> simp) W hb)
  have hk8 : k ≤ 8 := by omega
  clear hr hn hk
  go_enter Tryz.func131, Tryz.ntmps131
  go_wp2_with fail
  refine (widths_any _).mono ?_
  rintro e w1 ⟨rfl, rfl⟩
  go_wp2_with fail
  refine (HC.out w.heap.size _ (Blk.new w _ _)).mono ?_
  rintro e w1 ⟨rfl, rfl⟩
  obtain ⟨wo, hwo⟩ : ∃ wo : World, wo = w.alloc (.cells widthCells 3) := ⟨_, rfl⟩
  rw [← hwo]
  have HB0 : Hid (Below w.heap.size w wo) := by rw [hwo]; exact (Below.refl w.heap.size w).alloc (Nat.le_refl _) _
  have HRW := Lib.hid (HR.out.below (HB0.out.mono hB))
  clear hwo HC
  go_wp2_with fail
  go_loopg [8, 26] k (fun q v8 v26 wr => ∃ j : Nat, j + q = k ∧ v26 = .int .i64 j ∧ v8 = .int .u64 (numTo l a j : Int) ∧ wo = wr)
  case atStart => exact ⟨0, by omega, rfl, rfl, rfl⟩
  case round =>
    obtain ⟨j, hj, rfl, rfl, rfl⟩ := hrel
    have hj' : j ≤ k := by omega
    have HJ := Lib.hid hj
    clear hj
    by_cases hlt : j < k
    · have hlt2 : a + j < n := by omega
      obtain ⟨ad, u, rfl, _, hx, hc⟩ := HRW.out.at_ hlt2
      obtain ⟨hjl, rfl⟩ := u8s_at hx
      have HO := Lib.hid (or_step l a j (by omega) l[a + j] (getD_of hjl))
      rw [n8_nat] at hc
      have hlb := (l[a + j]).isLt
      clear hx
      go_wp2_with (with_reducible refine wpList_shl_u64 rfl _ _ _ _ (l[a + j]).toNat j (by omega) (by omega) _ rfl rfl rfl ?_)
      go_roundg (gk - 1)
      case measure => have := HJ.out; omega
      case rel => exact ⟨j + 1, by have := HJ.out; omega, by go_num, by rw [← HO.out, Int.natCast_mul, Int.natCast_pow]; rfl, rfl⟩
    · have e8 : j = k := by omega
      subst e8
      go_wp2_with fail
      go_ret2
      exact ⟨rfl, HB0.out⟩
end Go.Proofs.YtnopljanpjmbgaaGreat
namespace Go.Proofs.YtnopljanpjmbgaaGreat
open Go.RowKit Drum
set_option linter.unusedVariables false
/-- A configuration's cells. -/
def cfv (c : Cf) : Array Value := #[.int .i64 c.slots, .int .i64 c.size, .int .i64 c.reserve, .int .i64 c.work, .int .i64 c.key, .int .i64 c.value, .int .i64 c.policy]
def recW (c : Cf) : Int := wrap64 (wrap64 (16 + c.key) + c.value)
set_option maxHeartbeats 400000 in
theorem record_any (c : Cf) (w : World) :
    Calls Tryz.prog 103 #[.agg (cfv c)] w fun e w' => e = .returned (.int .i64 (recW c)) ∧ w' = w.alloc (.cells (cfv c) 26) := by
  unfold cfv recW
  go_enter Tryz.func103, Tryz.ntmps103
  go_wp2
  go_ret
  exact ⟨rfl, rfl⟩
/-- The spans that are looked at. -/
def spanN (c : Cf) : Nat → Int
  | 0 => c.reserve | 1 => c.slots | 2 => c.key | 3 => c.value | 4 => c.size | 5 => c.work | _ => c.policy
def spanLo (c : Cf) : Nat → Int
  | 0 => 2 | 1 => IntKind.i64.wrap (c.reserve + 2) | 2 => 1 | 3 => 0 | 4 => IntKind.i64.wrap (16 + recW c) | 5 => IntKind.i64.wrap (2 * IntKind.i64.wrap (recW c + 16)) | _ => 1
def spanHi : Nat → Int
  | 0 => 8 | 1 => 32 | 2 => 32 | 3 => 512 | 4 => 8192 | 5 => 65536 | _ => 2
def spanOk (c : Cf) (i : Nat) : Prop := spanLo c i ≤ spanN c i ∧ spanN c i ≤ spanHi i
theorem spans_ok (c : Cf) (h : c.wf) : (∀ i, i < 7 → spanOk c i) ↔ c.ok := by
  constructor
  · intro hs
    have h0 := hs 0 (by omega)
    have h1 := hs 1 (by omega)
    have h2 := hs 2 (by omega)
    have h3 := hs 3 (by omega)
    have h4 := hs 4 (by omega)
    have h5 := hs 5 (by omega)
    have h6 := hs 6 (by omega)
    simp only [spanOk, spanN, spanLo, spanHi, IntWalk.i64_left] at h0 h1 h2 h3 h4 h5 h6
    have e1 : wrap64 (c.reserve + 2) = c.reserve + 2 := IntWalk.wrap64_in _ (by omega)
    have e2 : recW c = 16 + c.key + c.value := by
      unfold recW
      rw [IntWalk.wrap64_in (16 + c.key) (by omega), IntWalk.wrap64_in _ (by omega)]
    rw [e2] at h4 h5
    rw [IntWalk.wrap64_in _ (by omega)] at h4
    rw [IntWalk.wrap64_in (16 + c.key + c.value + 16) (by omega), IntWalk.wrap64_in _ (by omega)] at h5
    rw [e1] at h1
    unfold Cf.ok
    omega
  · intro hc i hi
    unfold Cf.ok at hc
    have e1 : wrap64 (c.reserve + 2) = c.reserve + 2 := IntWalk.wrap64_in _ (by omega)
    have e2 : recW c = 16 + c.key + c.value := by
      unfold recW
      rw [IntWalk.wrap64_in (16 + c.key) (by omega), IntWalk.wrap64_in _ (by omega)]
    have e3 : wrap64 (16 + recW c) = 16 + recW c := IntWalk.wrap64_in _ (by omega)
    have e4 : wrap64 (2 * wrap64 (recW c + 16)) = 2 * (recW c + 16) := by
      rw [IntWalk.wrap64_in (recW c + 16) (by omega), IntWalk.wrap64_in _ (by omega)]
    rcases (show i = 0 ∨ i = 1 ∨ i = 2 ∨ i = 3 ∨ i = 4 ∨ i = 5 ∨ i = 6 by omega) with rfl | rfl | rfl | rfl | rfl | rfl | rfl <;>
      simp only [spanOk, spanN, spanLo, spanHi, IntWalk.i64_left, e1, e3, e4] <;> omega
def spanCells (c : Cf) : Array Value := #[.int .i64 (spanN c 0), .int .i64 (spanLo c 0), .int .i64 (spanHi 0), .int .i64 (spanN c 1), .int .i64 (spanLo c 1), .int .i64 (spanHi 1),
  .int .i64 (spanN c 2), .int .i64 (spanLo c 2), .int .i64 (spanHi 2), .int .i64 (spanN c 3), .int .i64 (spanLo c 3), .int .i64 (spanHi 3), .int .i64 (spanN c 4), .int .i64 (spanLo c 4), .int .i64 (spanHi 4),
  .int .i64 (spanN c 5), .int .i64 (spanLo c 5), .int .i64 (spanHi 5), .int .i64 (spanN c 6), .int .i64 (spanLo c 6), .int .i64 (spanHi 6)]
set_option maxHeartbeats 4000000 in
theorem cfCheck_any (c : Cf) (hc : c.wf) (w : World) :
    Calls Tryz.prog 56 #[.agg (cfv c)] w fun e w' => e = .returned (.int .i64 (if c.ok then 0 else 2)) ∧ Below w.heap.size w w' := by
  have CA : Hid (∀ W, Below (w.heap.size + 1) (w.alloc (.cells (cfv c) 26)) W → Calls Tryz.prog 103 #[.agg (cfv c)] W fun e W' => e = .returned (.int .i64 (recW c)) ∧
      (W'.cell? ⟨w.heap.size, 0, none⟩ = some (.int .i64 c.slots) ∧ W'.cell? ⟨w.heap.size, 1, none⟩ = some (.int .i64 c.size) ∧ W'.cell? ⟨w.heap.size, 2, none⟩ = some (.int .i64 c.reserve) ∧ W'.cell? ⟨w.heap.size, 3, none⟩ = some (.int .i64 c.work) ∧
        W'.cell? ⟨w.heap.size, 4, none⟩ = some (.int .i64 c.key) ∧ W'.cell? ⟨w.heap.size, 5, none⟩ = some (.int .i64 c.value) ∧ W'.cell? ⟨w.heap.size, 6, none⟩ = some (.int .i64 c.policy)) ∧ Below (w.heap.size + 1) (w.alloc (.cells (cfv c) 26)) W') := by
    intro W hW
    have hb : Blk W w.heap.size 26 (cfv c) := (Blk.new w _ _).below hW (by omega)
    refine (record_any c W).mono ?_
    rintro e W' ⟨rfl, rfl⟩
    have hb' := hb.alloc (.cells (cfv c) 26)
    exact ⟨rfl, ⟨hb'.cell 0, hb'.cell 1, hb'.cell 2, hb'.cell 3, hb'.cell 4, hb'.cell 5, hb'.cell 6⟩, hW.alloc (by have := hW.size; simp at this; exact this) _⟩
  have hb0 : Blk (w.alloc (.cells (cfv c) 26)) w.heap.size 26 (cfv c) := Blk.new w _ _
  have hq0 : (w.alloc (.cells (cfv c) 26)).cell? ⟨w.heap.size, 0, none⟩ = some (.int .i64 c.slots) ∧ (w.alloc (.cells (cfv c) 26)).cell? ⟨w.heap.size, 1, none⟩ = some (.int .i64 c.size) ∧ (w.alloc (.cells (cfv c) 26)).cell? ⟨w.heap.size, 2, none⟩ = some (.int .i64 c.reserve) ∧ (w.alloc (.cells (cfv c) 26)).cell? ⟨w.heap.size, 3, none⟩ = some (.int .i64 c.work) ∧
        (w.alloc (.cells (cfv c) 26)).cell? ⟨w.heap.size, 4, none⟩ = some (.int .i64 c.key) ∧ (w.alloc (.cells (cfv c) 26)).cell? ⟨w.heap.size, 5, none⟩ = some (.int .i64 c.value) ∧ (w.alloc (.cells (cfv c) 26)).cell? ⟨w.heap.size, 6, none⟩ = some (.int .i64 c.policy) :=
    ⟨hb0.cell 0, hb0.cell 1, hb0.cell 2, hb0.cell 3, hb0.cell 4, hb0.cell 5, hb0.cell 6⟩
  have HB0 : Hid (Below (w.heap.size + 1) (w.alloc (.cells (cfv c) 26)) (w.alloc (.cells (cfv c) 26))) := Below.refl _ _
  have HW := Lib.hid (spans_ok c hc)
  clear hb0 hc
  unfold cfv at *
  go_enter Tryz.func56, Tryz.ntmps56
  go_wp2_with fail
  go_region_held3 (fun w' => w'.cell? ⟨w.heap.size, 0, none⟩ = some (.int .i64 c.slots) ∧ w'.cell? ⟨w.heap.size, 1, none⟩ = some (.int .i64 c.size) ∧ w'.cell? ⟨w.heap.size, 2, none⟩ = some (.int .i64 c.reserve) ∧ w'.cell? ⟨w.heap.size, 3, none⟩ = some (.int .i64 c.work) ∧
        w'.cell? ⟨w.heap.size, 4, none⟩ = some (.int .i64 c.key) ∧ w'.cell? ⟨w.heap.size, 5, none⟩ = some (.int .i64 c.value) ∧ w'.cell? ⟨w.heap.size, 6, none⟩ = some (.int .i64 c.policy)) (first | assumption | go_keep)
    (first | (go_at_call 103; refine (CA.out _ (by first | exact Below.refl _ _ | exact (Below.refl _ _).drew | assumption)).mono ?_; rintro e w4 ⟨rfl, hq1, hb1⟩))
  obtain ⟨wo, hwo⟩ : ∃ wo : World, wo = w4.alloc (.cells #[.int .i64 c.reserve, .int .i64 2, .int .i64 8, .int .i64 c.slots, .int .i64 (IntKind.i64.wrap (c.reserve + 2)), .int .i64 32, .int .i64 c.key, .int .i64 1, .int .i64 32,
          .int .i64 c.value, .int .i64 0, .int .i64 512, .int .i64 c.size, .int .i64 (IntKind.i64.wrap (16 + recW c)), .int .i64 8192, .int .i64 c.work,
          .int .i64 (IntKind.i64.wrap (2 * IntKind.i64.wrap (recW c + 16))), .int .i64 65536, .int .i64 c.policy, .int .i64 1, .int .i64 2] 149) := ⟨_, rfl⟩
  rw [← hwo]
  have HBK : Hid (Blk wo w4.heap.size 149 (spanCells c)) := by rw [hwo]; exact Blk.new _ _ _
  have HBW : Hid (Below w.heap.size w wo) := by
    rw [hwo]
    have h1 := ((Below.refl w.heap.size w).alloc (Nat.le_refl _) (.cells (cfv c) 26)).trans (hb1.mono (by omega))
    exact h1.alloc h1.size _
  have h4 : w.heap.size < w4.heap.size := by have := hb1.size; simp at this; omega
  clear hwo
  have HK := Lib.hid (fun (i : Nat) => HBK.out.cell i)
  clear hb1 hq1
  go_wp2_with fail
  go_loopg [38] 7 (fun q v38 wr => ∃ j : Nat, j + q = 7 ∧ v38 = .int .i64 j ∧ (∀ i, i < j → spanOk c i) ∧ Blk wr w4.heap.size 149 (spanCells c) ∧ Below w.heap.size w wr)
  case atStart => exact ⟨0, rfl, rfl, fun i hi => by omega, HBK.out, HBW.out⟩
  case round =>
    obtain ⟨j, hj, rfl, hok, hbk, hbw⟩ := hrel
    have HJ := Lib.hid hj
    have HOK := Lib.hid hok
    have HBK := Lib.hid hbk
    have HBW := Lib.hid hbw
    have hj7 : j ≤ 7 := by omega
    clear hj hok hbw
    by_cases hlt : j < 7
    · obtain ⟨n, lo, hi, g0, g1, g2, HS⟩ : ∃ n lo hi : Int, (spanCells c)[j * 3]? = some (.int .i64 n) ∧ (spanCells c)[j * 3 + 1]? = some (.int .i64 lo) ∧ (spanCells c)[j * 3 + 2]? = some (.int .i64 hi) ∧ Hid (spanOk c j ↔ (lo ≤ n ∧ n ≤ hi)) := by
        refine ⟨spanN c j, spanLo c j, spanHi j, ?_, ?_, ?_, Iff.rfl⟩ <;>
          rcases (show j = 0 ∨ j = 1 ∨ j = 2 ∨ j = 3 ∨ j = 4 ∨ j = 5 ∨ j = 6 by omega) with rfl | rfl | rfl | rfl | rfl | rfl | rfl <;> rfl
      have c0 : wr.cell? ⟨w4.heap.size, j * 3, none⟩ = some (.int .i64 n) := (hbk.cell _).trans g0
      have c1 : wr.cell? ⟨w4.heap.size, j * 3 + 1, none⟩ = some (.int .i64 lo) := (hbk.cell _).trans g1
      have c2 : wr.cell? ⟨w4.heap.size, j * 3 + 2, none⟩ = some (.int .i64 hi) := (hbk.cell _).trans g2
      clear hbk g0 g1 g2
      by_cases h1 : n < lo
      · have HNO : Hid (¬ c.ok) := fun h => by have := HS.out.1 (HW.out.2 h j hlt); omega
        go_wp2_with fail
        go_ret
        exact ⟨by first | rfl | (rw [if_neg HNO.out]; rfl), HBW.out.alloc HBW.out.size _⟩
      · by_cases h2 : hi < n
        · have HNO : Hid (¬ c.ok) := fun h => by have := HS.out.1 (HW.out.2 h j hlt); omega
          go_wp2_with fail
          go_ret
          exact ⟨by first | rfl | (rw [if_neg HNO.out]; rfl), HBW.out.alloc HBW.out.size _⟩
        · have HYES : Hid (spanOk c j) := HS.out.2 (by omega)
          go_wp2_with fail
          go_roundg (gk - 1)
          case measure => have := HJ.out; omega
          case rel =>
            refine ⟨j + 1, by have := HJ.out; omega, by go_num, fun i hi => ?_, HBK.out.alloc _, HBW.out.alloc HBW.out.size _⟩
            by_cases e : i = j
            · rw [e]; exact HYES.out
            · exact HOK.out i (by omega)
    · have hj7 : j = 7 := by omega
      subst hj7
      clear hbk
      have HYES : Hid c.ok := HW.out.1 HOK.out
      go_wp2_with fail
      go_ret
      exact ⟨by first | rfl | (rw [if_pos HYES.out]; rfl), HBW.out⟩
end Go.Proofs.YtnopljanpjmbgaaGreat
namespace Go.Proofs.YtnopljanpjmbgaaGreat
open Go.RowKit Drum
set_option linter.unusedVariables false
/-- A superblock's cells. -/
def bkv (b : Bk) : Array Value := #[.int .i64 b.epoch, .int .i64 b.conf.slots, .int .i64 b.conf.size, .int .i64 b.conf.reserve, .int .i64 b.conf.work, .int .i64 b.conf.key, .int .i64 b.conf.value, .int .i64 b.conf.policy]
def okN (p : Prop) [Decidable p] : Int := if p then 0 else 2
theorem okN_yes {p : Prop} [Decidable p] (h : p) : okN p = 0 := if_pos h
theorem okN_no {p : Prop} [Decidable p] (h : ¬ p) : okN p = 2 := if_neg h
theorem cfCheck_ok (c : Cf) (hc : c.wf) (w : World) : Calls Tryz.prog 56 #[.agg (cfv c)] w fun e w' => e = .returned (.int .i64 (okN c.ok)) ∧ Below w.heap.size w w' := cfCheck_any c hc w
set_option maxHeartbeats 1000000 in
theorem check_any (b : Bk) (hb : b.wf) (w : World) :
    Calls Tryz.prog 45 #[.agg (bkv b)] w fun e w' => e = .returned (.int .i64 (okN b.ok)) ∧ Below w.heap.size w w' := by
  have HC := Lib.hid (fun W => cfCheck_ok b.conf hb.2 W)
  clear hb
  unfold cfv at HC
  unfold bkv
  by_cases h1 : b.epoch < 1
  · have HE : Hid (okN b.ok = 2) := okN_no (fun h => by have := h.1.1; omega)
    clear HC
    go_enter Tryz.func45, Tryz.ntmps45
    go_wp2_with fail
    go_ret
    exact ⟨by rw [HE.out]; rfl, by go_grown⟩
  · by_cases h2 : 1099511627776 < b.epoch
    · have HE : Hid (okN b.ok = 2) := okN_no (fun h => by have := h.1.2; omega)
      clear HC
      go_enter Tryz.func45, Tryz.ntmps45
      go_wp2_with fail
      go_ret
      exact ⟨by rw [HE.out]; rfl, by go_grown⟩
    · by_cases h3 : b.conf.ok
      · have HE : Hid (okN b.ok = 0) := okN_yes ⟨by omega, h3⟩
        have HC' := HC.out
        rw [okN_yes h3] at HC'
        have HC2 := Lib.hid HC'
        clear HC HC' h3
        go_enter Tryz.func45, Tryz.ntmps45
        go_wp2_with fail
        refine (HC2.out _).mono ?_
        rintro e w1 ⟨rfl, hb1⟩
        have HB := Lib.hid (bt (ba (Below.refl w.heap.size w) _) hb1)
        clear hb1
        go_wp2_with fail
        go_ret
        exact ⟨by rw [HE.out]; rfl, HB.out⟩
      · have HE : Hid (okN b.ok = 2) := okN_no (fun h => h3 h.2)
        have HC' := HC.out
        rw [okN_no h3] at HC'
        have HC2 := Lib.hid HC'
        clear HC HC' h3
        go_enter Tryz.func45, Tryz.ntmps45
        go_wp2_with fail
        refine (HC2.out _).mono ?_
        rintro e w1 ⟨rfl, hb1⟩
        have HB := Lib.hid (bt (ba (Below.refl w.heap.size w) _) hb1)
        clear hb1
        go_wp2_with fail
        go_ret
        exact ⟨by rw [HE.out]; rfl, HB.out⟩
set_option maxHeartbeats 400000 in
theorem in_yes (n lo hi : Int) (h : lo ≤ n ∧ n ≤ hi) (w : World) :
    Calls Tryz.prog 104 #[.int .i64 n, .int .i64 lo, .int .i64 hi] w fun e w' => e = .returned (.bool true) ∧ w = w' := by
  obtain ⟨h1, h2⟩ := h
  go_enter Tryz.func104, Tryz.ntmps104
  go_wp2_with fail
  go_ret
  exact ⟨rfl, rfl⟩
set_option maxHeartbeats 400000 in
theorem in_no (n lo hi : Int) (h : ¬ (lo ≤ n ∧ n ≤ hi)) (w : World) :
    Calls Tryz.prog 104 #[.int .i64 n, .int .i64 lo, .int .i64 hi] w fun e w' => e = .returned (.bool false) ∧ w = w' := by
  by_cases h1 : n < lo
  · go_enter Tryz.func104, Tryz.ntmps104
    go_wp2_with fail
    go_ret
    exact ⟨rfl, rfl⟩
  · have h2 : hi < n := by omega
    have hd : decide (n ≤ hi) = false := by simp; omega
    clear h
    go_enter Tryz.func104, Tryz.ntmps104
    go_wp2_with fail
    go_ret
    exact ⟨by first | rfl | (rw [← hd]; rfl), rfl⟩
theorem in_any (n lo hi : Int) (w : World) :
    Calls Tryz.prog 104 #[.int .i64 n, .int .i64 lo, .int .i64 hi] w fun e w' => e = .returned (.bool (decide (lo ≤ n ∧ n ≤ hi))) ∧ w = w' := by
  by_cases h : lo ≤ n ∧ n ≤ hi
  · rw [decide_eq_true h]; exact in_yes n lo hi h w
  · rw [decide_eq_false h]; exact in_no n lo hi h w
set_option maxHeartbeats 4000000 in
theorem refCfCheck_any (c : Cf) (hc : c.wf) (w : World) :
    Calls Tryz.prog 59 #[.agg (cfv c)] w fun e w' => e = .returned (.int .i64 (okN c.ok)) ∧ Below w.heap.size w w' := by
  have hb : -9223372036854775808 ≤ c.reserve ∧ c.reserve ≤ 9223372036854775807 := hc _ (by simp [Cf.nums])
  clear hc
  unfold cfv
  by_cases h0 : 2 ≤ c.reserve ∧ c.reserve ≤ 8
  · by_cases h1 : c.reserve + 2 ≤ c.slots ∧ c.slots ≤ 32
    · by_cases h2 : 1 ≤ c.key ∧ c.key ≤ 32
      · by_cases h3 : 0 ≤ c.value ∧ c.value ≤ 512
        · by_cases h4 : 32 + c.key + c.value ≤ c.size ∧ c.size ≤ 8192
          · by_cases h5 : 2 * (32 + c.key + c.value) ≤ c.work ∧ c.work ≤ 65536
            · by_cases h6 : 1 ≤ c.policy ∧ c.policy ≤ 2
              · have HE : Hid (okN c.ok = 0) := okN_yes ⟨h0, h1, h2, h3, h4, h5, h6⟩
                go_enter Tryz.func59, Tryz.ntmps59
                go_wp2_with (go_at_call 104; first | (refine (in_yes _ _ _ (by omega) _).mono ?_; rintro e w1 ⟨rfl, rfl⟩) | (refine (in_no _ _ _ (by omega) _).mono ?_; rintro e w1 ⟨rfl, rfl⟩))
                go_ret
                exact ⟨by rw [HE.out]; rfl, by go_grown⟩
              · have HE : Hid (okN c.ok = 2) := okN_no (fun h => h6 h.2.2.2.2.2.2)
                go_enter Tryz.func59, Tryz.ntmps59
                go_wp2_with (go_at_call 104; first | (refine (in_yes _ _ _ (by omega) _).mono ?_; rintro e w1 ⟨rfl, rfl⟩) | (refine (in_no _ _ _ (by omega) _).mono ?_; rintro e w1 ⟨rfl, rfl⟩))
                go_ret
                exact ⟨by rw [HE.out]; rfl, by go_grown⟩
            · have HE : Hid (okN c.ok = 2) := okN_no (fun h => h5 h.2.2.2.2.2.1)
              go_enter Tryz.func59, Tryz.ntmps59
              go_wp2_with (go_at_call 104; first | (refine (in_yes _ _ _ (by omega) _).mono ?_; rintro e w1 ⟨rfl, rfl⟩) | (refine (in_no _ _ _ (by omega) _).mono ?_; rintro e w1 ⟨rfl, rfl⟩))
              go_ret
              exact ⟨by rw [HE.out]; rfl, by go_grown⟩
          · have HE : Hid (okN c.ok = 2) := okN_no (fun h => h4 h.2.2.2.2.1)
            go_enter Tryz.func59, Tryz.ntmps59
            go_wp2_with (go_at_call 104; first | (refine (in_yes _ _ _ (by omega) _).mono ?_; rintro e w1 ⟨rfl, rfl⟩) | (refine (in_no _ _ _ (by omega) _).mono ?_; rintro e w1 ⟨rfl, rfl⟩))
            go_ret
            exact ⟨by rw [HE.out]; rfl, by go_grown⟩
        · have HE : Hid (okN c.ok = 2) := okN_no (fun h => h3 h.2.2.2.1)
          go_enter Tryz.func59, Tryz.ntmps59
          go_wp2_with (go_at_call 104; first | (refine (in_yes _ _ _ (by omega) _).mono ?_; rintro e w1 ⟨rfl, rfl⟩) | (refine (in_no _ _ _ (by omega) _).mono ?_; rintro e w1 ⟨rfl, rfl⟩))
          go_ret
          exact ⟨by rw [HE.out]; rfl, by go_grown⟩
      · have HE : Hid (okN c.ok = 2) := okN_no (fun h => h2 h.2.2.1)
        go_enter Tryz.func59, Tryz.ntmps59
        go_wp2_with (go_at_call 104; first | (refine (in_yes _ _ _ (by omega) _).mono ?_; rintro e w1 ⟨rfl, rfl⟩) | (refine (in_no _ _ _ (by omega) _).mono ?_; rintro e w1 ⟨rfl, rfl⟩))
        go_ret
        exact ⟨by rw [HE.out]; rfl, by go_grown⟩
    · have HE : Hid (okN c.ok = 2) := okN_no (fun h => h1 h.2.1)
      go_enter Tryz.func59, Tryz.ntmps59
      go_wp2_with (go_at_call 104; first | (refine (in_yes _ _ _ (by omega) _).mono ?_; rintro e w1 ⟨rfl, rfl⟩) | (refine (in_no _ _ _ (by omega) _).mono ?_; rintro e w1 ⟨rfl, rfl⟩))
      go_ret
      exact ⟨by rw [HE.out]; rfl, by go_grown⟩
  · have HE : Hid (okN c.ok = 2) := okN_no (fun h => h0 h.1)
    go_enter Tryz.func59, Tryz.ntmps59
    go_wp2_with (go_at_call 104; first | (refine (in_yes _ _ _ (by omega) _).mono ?_; rintro e w1 ⟨rfl, rfl⟩) | (refine (in_no _ _ _ (by omega) _).mono ?_; rintro e w1 ⟨rfl, rfl⟩))
    go_ret
    exact ⟨by rw [HE.out]; rfl, by go_grown⟩
set_option maxHeartbeats 1000000 in
theorem refCheck_any (b : Bk) (hb : b.wf) (w : World) :
    Calls Tryz.prog 107 #[.agg (bkv b)] w fun e w' => e = .returned (.int .i64 (okN b.ok)) ∧ Below w.heap.size w w' := by
  have HC := Lib.hid (fun W => refCfCheck_any b.conf hb.2 W)
  clear hb
  unfold cfv at HC
  unfold bkv
  by_cases h1 : b.epoch < 1
  · have HE : Hid (okN b.ok = 2) := okN_no (fun h => by have := h.1.1; omega)
    clear HC
    go_enter Tryz.func107, Tryz.ntmps107
    go_wp2_with fail
    go_ret
    exact ⟨by rw [HE.out]; rfl, by go_grown⟩
  · by_cases h2 : 1099511627776 < b.epoch
    · have HE : Hid (okN b.ok = 2) := okN_no (fun h => by have := h.1.2; omega)
      clear HC
      go_enter Tryz.func107, Tryz.ntmps107
      go_wp2_with fail
      go_ret
      exact ⟨by rw [HE.out]; rfl, by go_grown⟩
    · by_cases h3 : b.conf.ok
      · have HE : Hid (okN b.ok = 0) := okN_yes ⟨by omega, h3⟩
        have HC' := HC.out
        rw [okN_yes h3] at HC'
        have HC2 := Lib.hid HC'
        clear HC HC' h3
        go_enter Tryz.func107, Tryz.ntmps107
        go_wp2_with fail
        refine (HC2.out _).mono ?_
        rintro e w1 ⟨rfl, hb1⟩
        have HB := Lib.hid (bt (ba (Below.refl w.heap.size w) _) hb1)
        clear hb1
        go_wp2_with fail
        go_ret
        exact ⟨by rw [HE.out]; rfl, HB.out⟩
      · have HE : Hid (okN b.ok = 2) := okN_no (fun h => h3 h.2)
        have HC' := HC.out
        rw [okN_no h3] at HC'
        have HC2 := Lib.hid HC'
        clear HC HC' h3
        go_enter Tryz.func107, Tryz.ntmps107
        go_wp2_with fail
        refine (HC2.out _).mono ?_
        rintro e w1 ⟨rfl, hb1⟩
        have HB := Lib.hid (bt (ba (Below.refl w.heap.size w) _) hb1)
        clear hb1
        go_wp2_with fail
        go_ret
        exact ⟨by rw [HE.out]; rfl, HB.out⟩
end Go.Proofs.YtnopljanpjmbgaaGreat

/-
  Bytes as the program's values, and slices of bytes in memory. No condition.
-/
import Derived.Test.YtalonikiljcpfaaDoorMem
import Derived.Test.YtalonikiljcpfaaDoorArgs
import Derived.Handy
namespace Go.Proofs.YtalonikiljcpfaaDoor
open Go.RowKit
set_option linter.unusedVariables false
/-- A byte as a number. -/
def n8 (b : BitVec 8) : Int := b.toNat
theorem n8_bd (x : BitVec 8) : 0 ≤ n8 x ∧ n8 x < 256 := by unfold n8; have := x.isLt; omega
def u8v (b : BitVec 8) : Value := .int .u8 (n8 b)
theorem n8_eq {x y : BitVec 8} : n8 x = n8 y ↔ x = y := by
  unfold n8
  exact ⟨fun h => BitVec.eq_of_toNat_eq (by omega), fun h => by rw [h]⟩
/-- Bytes in memory. -/
def u8s (l : List (BitVec 8)) : List Value := l.map u8v
theorem u8s_length (l : List (BitVec 8)) : (u8s l).length = l.length := by simp [u8s]
theorem u8s_at {l : List (BitVec 8)} {k : Nat} {u : Value} (h : (u8s l)[k]? = some u) : ∃ hk : k < l.length, u = .int .u8 (n8 l[k]) := by
  simp only [u8s, List.getElem?_map, Option.map_eq_some_iff] at h
  obtain ⟨b, hb, rfl⟩ := h
  obtain ⟨hk, rfl⟩ := List.getElem?_eq_some_iff.1 hb
  exact ⟨hk, rfl⟩
theorem u8s_get {l : List (BitVec 8)} {k : Nat} (hk : k < l.length) : (u8s l)[k]? = some (.int .u8 (n8 l[k])) := by
  simp [u8s, u8v, hk]
theorem take_snoc {α : Type} (l : List α) (k : Nat) (h : k < l.length) : l.take (k + 1) = l.take k ++ [l[k]] := by
  rw [List.take_succ_eq_append_getElem h]
theorem u8s_append (l m : List (BitVec 8)) : u8s l ++ u8s m = u8s (l ++ m) := by simp [u8s]
theorem u8s_take (l : List (BitVec 8)) (k : Nat) : u8s (l.take k) = (u8s l).take k := by simp [u8s]
theorem u8s_drop (l : List (BitVec 8)) (k : Nat) : u8s (l.drop k) = (u8s l).drop k := by simp [u8s]
theorem u8s_set (l : List (BitVec 8)) (q : Nat) (b : BitVec 8) : u8s (l.set q b) = (u8s l).set q (.int .u8 (n8 b)) := by
  simp [u8s, List.map_set, u8v]
theorem u8s_one (l : List (BitVec 8)) : ∀ u ∈ u8s l, u.oneCell' = true := by
  intro u hu
  simp only [u8s, List.mem_map] at hu
  obtain ⟨b, _, rfl⟩ := hu
  rfl
theorem u8s_inj : ∀ {l m : List (BitVec 8)}, u8s l = u8s m → l = m := by
  intro l
  induction l with
  | nil => intro m h; cases m with
    | nil => rfl
    | cons b m => simp [u8s] at h
  | cons a l ih => intro m h; cases m with
    | nil => simp [u8s] at h
    | cons b m =>
      simp only [u8s, List.map_cons, List.cons.injEq, u8v, Value.int.injEq, true_and] at h
      rw [n8_eq.1 h.1, ih (m := m) h.2]
def zbytes (k : Nat) : List (BitVec 8) := List.replicate k 0#8
theorem zbytes_length (k : Nat) : (zbytes k).length = k := by simp [zbytes]
theorem n8_zero' : n8 0#8 = 0 := by unfold n8; rfl
theorem zcells (k : Nat) : (madeCells (Value.int .u8 0).cells (k * 1)).toList = u8s (zbytes k) := by
  rw [Nat.mul_one]
  show (madeCells #[Value.int .u8 0] k).toList = _
  rw [toList_madeCells_one]
  simp [u8s, zbytes, u8v, n8]
theorem u8_of_wf {n : Int} (h : (Lit.int .u8 n).wf = true) : ∃ b : BitVec 8, n = n8 b := by
  simp [Lit.wf, IntKind.min, IntKind.max, IntKind.signed, IntKind.bits] at h
  exact ⟨BitVec.ofNat 8 n.toNat, by unfold n8; simp; omega⟩
theorem i64_of_wf {n : Int} (h : (Lit.int .i64 n).wf = true) : -9223372036854775808 ≤ n ∧ n ≤ 9223372036854775807 := by
  simp [Lit.wf, IntKind.min, IntKind.max, IntKind.signed, IntKind.bits] at h
  omega
theorem u16_of_wf {n : Int} (h : (Lit.int .u16 n).wf = true) : 0 ≤ n ∧ n < 65536 := by
  simp [Lit.wf, IntKind.min, IntKind.max, IntKind.signed, IntKind.bits] at h
  omega
theorem bytes_of_all : ∀ zs : List Value, (∀ k, k < zs.length → ∃ b : BitVec 8, zs[k]? = some (.int .u8 (n8 b))) → ∃ l : List (BitVec 8), zs = u8s l := by
  intro zs
  induction zs with
  | nil => intro _; exact ⟨[], rfl⟩
  | cons z zs ih =>
    intro h
    obtain ⟨b, hb⟩ := h 0 (by simp)
    obtain ⟨l, rfl⟩ := ih (fun k hk => by simpa using h (k + 1) (by simpa using hk))
    have : z = .int .u8 (n8 b) := by simpa using hb
    subst this
    exact ⟨b :: l, rfl⟩
theorem reads_one {w : World} {a : Addr} {b : BitVec 8} (h : w.cell? a = some (.int .u8 (n8 b))) {B : Nat} (hB : a.block < B) : Reads w B 1 (some a) 1 (u8s [b]) := by
  refine ⟨rfl, fun _ => ⟨a, rfl, hB, fun j u hu => ?_⟩⟩
  obtain ⟨hk, rfl⟩ := u8s_at hu
  have : j = 0 := by simpa using hk
  subst this
  exact h
theorem u8s_of_wf : ∀ zs : List Int, (∀ n ∈ zs, (Lit.int .u8 n).wf = true) → ∃ l : List (BitVec 8), zs.map (Value.int .u8) = u8s l := by
  intro zs
  induction zs with
  | nil => intro _; exact ⟨[], rfl⟩
  | cons z zs ih =>
    intro h
    obtain ⟨b, rfl⟩ := u8_of_wf (h z (by simp))
    obtain ⟨l, hl⟩ := ih (fun n hn => h n (by simp [hn]))
    exact ⟨b :: l, by simp [u8s, u8v, hl]⟩
/-- Bytes that came in. -/
theorem IsRow.bytes {w : World} {a : Option Addr} {len cap : Nat} {zs : List Int} (h : IsRow .u8 w a len cap zs) :
    ∃ l : List (BitVec 8), len = l.length ∧ len ≤ maxLen ∧ len ≤ cap ∧ cap ≤ maxLen ∧ Reads w w.heap.size 1 a len (u8s l) := by
  obtain ⟨h1, h2, h3, h4, h5⟩ := h.reads
  obtain ⟨l, hl⟩ := u8s_of_wf (zs.take len) (fun n hn => h4 n (List.mem_of_mem_take hn))
  rw [hl] at h5
  have := h5.1
  rw [u8s_length] at this
  exact ⟨l, by omega, by omega, h1, h2, h5⟩
theorem add_zero_addr (b j : Nat) : (⟨b, 0, none⟩ : Addr).add j = ⟨b, j, none⟩ := by unfold Addr.add; split <;> simp_all
theorem reads_new (W : World) (t : TypeId) (cs : Array Value) (fr : Nat × Nat) (l : List (BitVec 8)) (n : Nat) (hn : n = l.length) (hcs : cs = (u8s l).toArray) :
    Reads (W.alloc (.cells cs t fr)) (W.heap.size + 1) 1 (some ⟨W.heap.size, 0, none⟩) n (u8s l) := by
  subst hcs hn
  refine ⟨by rw [u8s_length]; omega, fun _ => ⟨_, rfl, by simp, fun j u hu => ?_⟩⟩
  rw [add_zero_addr, cell_of_row _ _ j _ t fr (heap_alloc_new W _)]
  simpa using hu
theorem Reads.take {w : World} {B : Nat} {A : Option Addr} {n k : Nat} {l : List (BitVec 8)} (h : Reads w B 1 A n (u8s l)) (hk : k ≤ n) : Reads w B 1 A k (u8s (l.take k)) := by
  have hl := h.1
  rw [u8s_length] at hl
  refine ⟨by rw [u8s_length, List.length_take]; omega, fun hk0 => ?_⟩
  obtain ⟨ad, e, hb, hc⟩ := h.2 (by omega)
  refine ⟨ad, e, hb, fun j u hu => hc j u ?_⟩
  rw [← hu]
  have hj : j < k := by
    have := (List.getElem?_eq_some_iff.1 hu).1
    rw [u8s_length, List.length_take] at this; omega
  simp [u8s, hj]
/-! ### What has changed: only blocks in F, and new ones -/
structure Chg (F : Nat → Prop) (w w' : World) : Prop where
  os : w'.os = w.os
  tape : w'.tape = w.tape
  output : w'.output = w.output
  size : w.heap.size ≤ w'.heap.size
  block : ∀ k, k < w.heap.size → ¬ F k → w'.heap[k]? = w.heap[k]?
theorem Chg.refl (F : Nat → Prop) (w : World) : Chg F w w := ⟨rfl, rfl, rfl, Nat.le_refl _, fun _ _ _ => rfl⟩
theorem Chg.trans {F G : Nat → Prop} {a b c : World} (h : Chg F a b) (k : Chg G b c) (hG : ∀ i, i < a.heap.size → G i → F i) : Chg F a c :=
  ⟨k.os.trans h.os, k.tape.trans h.tape, k.output.trans h.output, Nat.le_trans h.size k.size, fun i hi hn => (k.block i (Nat.lt_of_lt_of_le hi h.size) (fun e => hn (hG i hi e))).trans (h.block i hi hn)⟩
theorem Chg.mono {F G : Nat → Prop} {a b : World} (h : Chg F a b) (hG : ∀ i, i < a.heap.size → F i → G i) : Chg G a b :=
  ⟨h.os, h.tape, h.output, h.size, fun i hi hn => h.block i hi (fun e => hn (hG i hi e))⟩
theorem Chg.drewN {F : Nat → Prop} {a b : World} (h : Chg F a b) (n : Nat) : Chg F a (b.drewN n) := ⟨h.os, h.tape, h.output, h.size, h.block⟩
theorem Chg.drew {F : Nat → Prop} {a b : World} (h : Chg F a b) : Chg F a b.drew := ⟨h.os, h.tape, h.output, h.size, h.block⟩
theorem Chg.alloc {F : Nat → Prop} {a b : World} (h : Chg F a b) (o : Obj) : Chg F a (b.alloc o) :=
  ⟨h.os, h.tape, h.output, Nat.le_trans h.size (by simp), fun i hi hn => (Below.heap_alloc b o i (Nat.lt_of_lt_of_le hi h.size)).trans (h.block i hi hn)⟩
theorem Chg.setCell {F : Nat → Prop} {a b : World} (h : Chg F a b) {p : Addr} (hp : F p.block ∨ a.heap.size ≤ p.block) (u : Value) : Chg F a (b.setCell p u) :=
  ⟨h.os, h.tape, h.output, by simpa [World.setCell] using h.size, fun i hi hn => (Below.heap_setCell b p u i (by
    rintro rfl
    rcases hp with hp | hp
    · exact hn hp
    · omega)).trans (h.block i hi hn)⟩
theorem Chg.grown {F : Nat → Prop} {a b c : World} {row : Option Nat} (h : Chg F a b) (k : b.grownBy c row) (hr : ∀ q, row = some q → F q ∨ a.heap.size ≤ q) : Chg F a c :=
  ⟨k.os.trans h.os, k.tape.trans h.tape, k.output.trans h.output, Nat.le_trans h.size k.size, fun i hi hn => (k.block i (Nat.lt_of_lt_of_le hi h.size) (fun e => by
    rcases hr i e.symm with h1 | h1
    · exact hn h1
    · omega)).trans (h.block i hi hn)⟩
theorem Chg.of_below {F : Nat → Prop} {a b : World} (h : Below a.heap.size a b) : Chg F a b := ⟨h.os, h.tape, h.output, h.size, fun i hi _ => h.block i hi⟩
theorem Chg.below {F : Nat → Prop} {a b : World} (h : Chg F a b) {B : Nat} (hB : B ≤ a.heap.size) (hF : ∀ k, F k → B ≤ k) : Below B a b :=
  ⟨h.os, h.tape, h.output, h.size, fun i hi => h.block i (by omega) (fun e => by have := hF i e; omega)⟩
theorem Blk.chg {F : Nat → Prop} {w w' : World} {g : Nat} {t : TypeId} {cs : Array Value} (h : Blk w g t cs) (hc : Chg F w w') (hg : ¬ F g) : Blk w' g t cs := (hc.block g h.lt hg).trans h
theorem own_chg {F : Nat → Prop} {w w' : World} {base n size : Nat} {e : TypeId} {v : Value} {xs : List Value} (h : w.ownsRow base e size v n xs) (hc : Chg F w w') (hF : ∀ k, v.ownBlock = some k → ¬ F k) : w'.ownsRow base e size v n xs := by
  have hlt := h.lt
  refine ⟨h.1, ?_⟩
  rcases h.2 with h0 | ⟨g, cap, cur, rfl, hg, h1, h2, h3, h4, h5⟩
  · exact .inl h0
  · exact .inr ⟨g, cap, cur, rfl, hg, (hc.block g (hlt g rfl).2 (hF g rfl)).trans h1, h2, h3, h4, h5⟩
theorem Reads.chg {F : Nat → Prop} {w w' : World} {B size n : Nat} {A : Option Addr} {xs : List Value} (h : Reads w B size A n xs) (hc : Chg F w w') (hB : B ≤ w.heap.size) (hF : ∀ k, k < B → ¬ F k) : Reads w' B size A n xs :=
  h.keep fun p hp => World.cell?_of_block (hc.block p.block (by omega) (hF _ hp))
attribute [irreducible] n8
end Go.Proofs.YtalonikiljcpfaaDoor

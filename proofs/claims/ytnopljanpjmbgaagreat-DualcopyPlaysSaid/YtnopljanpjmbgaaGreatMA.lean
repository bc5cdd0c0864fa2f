/-
  Words for memory, turned from the guide's small lemmas: a slice that reads as a list, a block that is known whole, an append onto a row of the call's own; and my own: worlds that differ in named blocks alone; What a law's walk is told of its arguments: each can be read as data; from that the cells, by the type's shape; Laws of my own for the walk's operations: the builtins min and max on integers, whole; Bytes as the program's values, and slices of bytes in memory; Objects that lie apart from each other in memory: each a statement about the world and the blocks it is about; a change of one leaves the others; Objects made of cells alone, and what a range over a function asks of them.
-/
import Derived.WalkKit
import Derived.WalkSpells
import Derived.WalkLawsBesides
import Derived.Lib.Hide
import Derived.Deep.LoopGhost
import Derived.Deep.Draws
import Derived.Deep.AppendLies
import Derived.Maps.AppendAt
import Derived.RegionTactic
import Derived.ProofKit
import Derived.Deep.Slices
import Derived.ChangeOld
import Derived.Handy
import Derived.RangeFuncNested
import Derived.RangeFuncBound
import Derived.RangeFuncCalls
import Derived.RangeFuncLeaves
import Derived.RangeFuncFrom
namespace Go.Proofs.YtnopljanpjmbgaaGreat
open Go.RowKit
set_option linter.unusedVariables false
theorem block_of_add (a : Addr) (n : Nat) : (a.add n).block = a.block := by unfold Addr.add; split <;> rfl
theorem add_of_add (a : Addr) (i j : Nat) : (a.add i).add j = a.add (i + j) := by
  unfold Addr.add
  by_cases hi : i = 0 <;> by_cases hj : j = 0 <;> simp [hi, hj, Nat.add_assoc]

def Reads (w : World) (B size : Nat) (A : Option Addr) (n : Nat) (xs : List Value) : Prop :=
  xs.length = n * size ∧ (0 < n → ∃ ad, A = some ad ∧ ad.block < B ∧ ∀ j u, xs[j]? = some u → w.cell? (ad.add j) = some u)

section
variable {w w' : World} {B B' size n : Nat} {A : Option Addr} {xs : List Value}
theorem Reads.none_ : Reads w B size A 0 [] := ⟨by simp, fun h => absurd h (by omega)⟩
theorem Reads.at_ {k : Nat} (h : Reads w B 1 A n xs) (hk : k < n) : ∃ ad u, A = some ad ∧ ad.block < B ∧ xs[k]? = some u ∧ w.cell? (ad.add k) = some u := by
  obtain ⟨ad, e, hb, hc⟩ := h.2 (by omega)
  have hl : k < xs.length := by have := h.1; omega
  exact ⟨ad, xs[k], e, hb, List.getElem?_eq_getElem hl, hc k _ (List.getElem?_eq_getElem hl)⟩
theorem Reads.keep (h : Reads w B size A n xs) (hk : ∀ p : Addr, p.block < B → w'.cell? p = w.cell? p) : Reads w' B size A n xs :=
  ⟨h.1, fun hn => by
    obtain ⟨ad, e, hb, hc⟩ := h.2 hn
    exact ⟨ad, e, hb, fun j u hu => (hk _ (by rw [block_of_add]; exact hb)).trans (hc j u hu)⟩⟩
theorem Reads.more (h : Reads w B size A n xs) (hB : B ≤ B') : Reads w B' size A n xs :=
  ⟨h.1, fun hn => by
    obtain ⟨ad, e, hb, hc⟩ := h.2 hn
    exact ⟨ad, e, by omega, hc⟩⟩
theorem Reads.below (h : Reads w B size A n xs) (hb : Below B w w') : Reads w' B size A n xs := h.keep fun _ hp => hb.cell hp
theorem Reads.drew (h : Reads w B size A n xs) : Reads w.drew B size A n xs := h
theorem Reads.drewN (h : Reads w B size A n xs) (k : Nat) : Reads (w.drewN k) B size A n xs := h
theorem Reads.alloc (h : Reads w B size A n xs) (hB : B ≤ w.heap.size) (o : Obj) : Reads (w.alloc o) B size A n xs := h.keep fun p hp => World.cell?_alloc_lt w o p (by omega)
theorem Reads.setCell (h : Reads w B size A n xs) {p : Addr} (hB : B ≤ p.block) (u : Value) : Reads (w.setCell p u) B size A n xs :=
  h.keep fun q hq => World.cell?_setCell_other w p q u (fun e => by subst e; omega)
theorem Reads.grown (h : Reads w B size A n xs) {row : Option Nat} (hg : w.grownBy w' row) (hB : B ≤ w.heap.size) (hr : ∀ g, row = some g → B ≤ g) : Reads w' B size A n xs :=
  h.keep fun p hp => World.cell?_of_block (hg.block p.block (by omega) (fun e => by have := hr _ e.symm; omega))
theorem Reads.cut (h : Reads w B size A n xs) {k cap : Nat} (hk : k ≤ n) (hc : n ≤ cap) :
    Reads w B size (if cap = k then A else A.map (·.add (k * size))) (n - k) (xs.drop (k * size)) := by
  refine ⟨by rw [List.length_drop, h.1, Nat.sub_mul], fun hn => ?_⟩
  obtain ⟨ad, rfl, hb, hcell⟩ := h.2 (by omega)
  rw [if_neg (by omega)]
  refine ⟨ad.add (k * size), rfl, by rw [block_of_add]; exact hb, fun j u hu => ?_⟩
  rw [add_of_add]
  exact hcell _ u (by rw [← hu, List.getElem?_drop])
theorem Reads.of_own {base : Nat} {e : TypeId} {c : Nat} (h : w.ownsRow base e size (.slice A n c) n xs) : Reads w w.heap.size size A n xs := by
  refine ⟨h.1, fun hn => ?_⟩
  obtain ⟨g, cap, hv, _, hlt⟩ := h.form hn
  have hA : A = some ⟨g, 0, none⟩ := by injection hv
  subst hA
  exact ⟨_, rfl, hlt, h.cells (g := g) rfl⟩
end

def Blk (w : World) (g : Nat) (t : TypeId) (cs : Array Value) : Prop := w.heap[g]? = some (.cells cs t (0, 0))

section
variable {w w' : World} {g : Nat} {t : TypeId} {cs : Array Value}
theorem Blk.lt (h : Blk w g t cs) : g < w.heap.size := by
  rcases Nat.lt_or_ge g w.heap.size with hlt | hge
  · exact hlt
  · unfold Blk at h; rw [Array.getElem?_eq_none hge] at h; cases h
theorem Blk.cell (h : Blk w g t cs) (i : Nat) : w.cell? ⟨g, i, none⟩ = cs[i]? := cell_of_row w g i cs t (0, 0) h
theorem Blk.frozen (h : Blk w g t cs) (i : Nat) : w.frozen? ⟨g, i, none⟩ = false := by
  unfold Blk at h
  simp [World.frozen?, h]
theorem Blk.new (w : World) (t : TypeId) (cs : Array Value) : Blk (w.alloc (.cells cs t)) w.heap.size t cs := heap_alloc_new w _
theorem Blk.drew (h : Blk w g t cs) : Blk w.drew g t cs := h
theorem Blk.drewN (h : Blk w g t cs) (n : Nat) : Blk (w.drewN n) g t cs := h
theorem Blk.alloc (h : Blk w g t cs) (o : Obj) : Blk (w.alloc o) g t cs := (Below.heap_alloc w o g h.lt).trans h
theorem Blk.set_ (h : Blk w g t cs) (i : Nat) (u : Value) : Blk (w.setCell ⟨g, i, none⟩ u) g t (cs.setIfInBounds i u) := by
  unfold Blk at h ⊢
  simp [World.setCell, Array.getElem?_modify, h]
theorem Blk.far (h : Blk w g t cs) {p : Addr} (hp : g ≠ p.block) (u : Value) : Blk (w.setCell p u) g t cs := (Below.heap_setCell w p u g hp).trans h
theorem Blk.below {B : Nat} (h : Blk w g t cs) (hb : Below B w w') (hg : g < B) : Blk w' g t cs := (hb.block g hg).trans h
theorem Blk.grown {row : Option Nat} (h : Blk w g t cs) (hb : w.grownBy w' row) (hg : some g ≠ row) : Blk w' g t cs := (hb.block g h.lt hg).trans h
theorem Blk.ne_ {g' : Nat} {t' : TypeId} {cs' : Array Value} (h : Blk w g t cs) (h' : Blk w g' t' cs') (hne : t ≠ t') : g ≠ g' := by
  rintro rfl
  unfold Blk at h h'
  rw [h] at h'
  injection h' with h'
  injection h' with _ ht
  exact hne ht
theorem own_blk_ne {base : Nat} {e : TypeId} {size n : Nat} {v : Value} {xs : List Value} (h : w.ownsRow base e size v n xs) (hg : Blk w g t cs) (hne : e ≠ t) : v.ownBlock ≠ some g := by
  rcases h.2 with ⟨rfl, _⟩ | ⟨g', cap, cur, rfl, _, hh, _⟩
  · simp [Value.ownBlock]
  · intro he
    have : g' = g := by simpa [Value.ownBlock] using he
    subst this
    exact Blk.ne_ (t := e) hh hg hne rfl
end

section
variable {P : Program} (w : World)

theorem run_append_of_nil (base : Nat) (t ty e : TypeId) (i : TypeInfo) (size : Nat) (ht : P.underlying t = some (.slice e)) (hi : P.info? e = some i)
    (v : Value) (n : Nat) (xs : List Value) (hown : w.ownsRow base e size v n xs) (c : Nat) : (Builtin.append_ #[t, t] ty #[v, .slice none 0 c]).run P w = .ok v w := by
  rcases hown.2 with ⟨rfl, rfl⟩ | ⟨g, cap, cur, rfl, _, _, hnc, _⟩
  · simp [Builtin.append_, run_underlying ht, sizeOf, typeInfo, hi, Builtin.lenOf, Builtin.firstCells]
  · simp [Builtin.append_, run_underlying ht, sizeOf, typeInfo, hi, Builtin.lenOf, Builtin.firstCells, hnc, storeCells]

theorem run_append_any (base : Nat) (t ty e : TypeId) (i : TypeInfo) (z : Value) (size bytes : Nat) (ht : P.underlying t = some (.slice e)) (hi : P.info? e = some i) (hz : i.zero = some z)
    (hsize : i.size = size) (hby : i.bytes = bytes) (hzs : z.cells.size = size) (hsz : 0 < size)
    (v : Value) (n : Nat) (xs : List Value) (hown : w.ownsRow base e size v n xs)
    (B : Nat) (A : Option Addr) (m c : Nat) (news : List Value) (hr : Reads w B size A m news) (h1 : ∀ u ∈ news, u.oneCell' = true)
    (h63 : n + m ≤ maxLen) (hbytes : (n + m) * bytes ≤ 140737488355328) (hbase : base ≤ w.heap.size) :
    ∃ v' w', (Builtin.append_ #[t, t] ty #[v, .slice A m c]).run P w = .ok v' w' ∧ w'.ownsRow base e size v' (n + m) (xs ++ news) ∧ w.grownBy w' v.ownBlock ∧
      (v'.ownBlock = v.ownBlock ∨ v'.ownBlock = some w.heap.size) := by
  rcases A with _ | ad
  · have hm : m = 0 := by
      rcases Nat.eq_zero_or_pos m with h0 | h0
      · exact h0
      · obtain ⟨ad, h, _⟩ := hr.2 h0
        cases h
    subst hm
    have hn : news = [] := List.eq_nil_of_length_eq_zero (by simpa using hr.1)
    subst hn
    exact ⟨v, w, run_append_of_nil w base t ty e i size ht hi v n xs hown c, by simpa using hown, World.grownBy.refl w _, .inl rfl⟩
  · have hcells : ∀ j u, news[j]? = some u → w.cell? (ad.add j) = some u := by
      intro j u hu
      rcases Nat.eq_zero_or_pos m with h0 | h0
      · subst h0
        have hn : news = [] := List.eq_nil_of_length_eq_zero (by simpa using hr.1)
        subst hn
        simp at hu
      · obtain ⟨ad', h, _, hc⟩ := hr.2 h0
        injection h with h
        subst h
        exact hc j u hu
    obtain ⟨v', w', hrun, h2, h3, _, h5⟩ := run_append_own_at (P := P) w base t ty e i z size bytes ht hi hz hsize hby hzs hsz v n xs hown ad m c news hr.1 hcells h1 h63 hbytes hbase
    exact ⟨v', w', hrun, h2, h3, h5⟩

theorem wp_append_any {o : Oper} {a : Act} {K : Act → World → Prop} {Q : Exit → Act → World → Prop} (s x : Operand) (t : TypeId)
    (ho : o.op = .call { callee := .builtin .append, args := #[s, x], argTypes := #[t, t] })
    (base : Nat) (e : TypeId) (i : TypeInfo) (z : Value) (size bytes : Nat) (ht : P.underlying t = some (.slice e)) (hi : P.info? e = some i) (hz : i.zero = some z)
    (hsize : i.size = size) (hby : i.bytes = bytes) (hzs : z.cells.size = size) (hsz : 0 < size)
    (v : Value) (n : Nat) (xs : List Value) (hs : a.eval s = v) (hown : w.ownsRow base e size v n xs)
    (B : Nat) (A : Option Addr) (m c : Nat) (news : List Value) (hx : a.eval x = .slice A m c) (hr : Reads w B size A m news) (h1 : ∀ u ∈ news, u.oneCell' = true)
    (h63 : n + m ≤ maxLen) (hbytes : (n + m) * bytes ≤ 140737488355328) (hbase : base ≤ w.heap.size)
    (h : ∀ v' w', w'.ownsRow base e size v' (n + m) (xs ++ news) → w.grownBy w' v.ownBlock → (v'.ownBlock = v.ownBlock ∨ v'.ownBlock = some w.heap.size) → K (a.put o.dst v') w') : o.wp P a w K Q := by
  obtain ⟨v', w', hrun, h2, h3, h4⟩ := run_append_any (P := P) w base t o.type e i z size bytes ht hi hz hsize hby hzs hsz v n xs hown B A m c news hr h1 h63 hbytes hbase
  unfold Oper.wp execOp
  simp only [ho, resolve, invoke, builtin, Sem.run_bind, Sem.run_pure, Result.andThen_ok, List.map_toArray, List.map_cons, List.map_nil, hs, hx, hrun]
  exact h v' w' h2 h3 h4

theorem wpList_append_any {ops : Array Oper} {rest : List Oper} {o : Oper} {a : Act} {Q : Exit → Act → World → Prop} (hgd : o.guard = none) (s x : Operand) (t : TypeId)
    (ho : o.op = .call { callee := .builtin .append, args := #[s, x], argTypes := #[t, t] })
    (base : Nat) (e : TypeId) (i : TypeInfo) (z : Value) (size bytes : Nat) (ht : P.underlying t = some (.slice e)) (hi : P.info? e = some i) (hz : i.zero = some z)
    (hsize : i.size = size) (hby : i.bytes = bytes) (hzs : z.cells.size = size) (hsz : 0 < size)
    (v : Value) (n : Nat) (xs : List Value) (hs : a.eval s = v) (hown : w.ownsRow base e size v n xs)
    (B : Nat) (A : Option Addr) (m c : Nat) (news : List Value) (hx : a.eval x = .slice A m c) (hr : Reads w B size A m news) (h1 : ∀ u ∈ news, u.oneCell' = true)
    (h63 : n + m ≤ maxLen) (hbytes : (n + m) * bytes ≤ 140737488355328) (hbase : base ≤ w.heap.size)
    (h : ∀ v' w', w'.ownsRow base e size v' (n + m) (xs ++ news) → w.grownBy w' v.ownBlock → (v'.ownBlock = v.ownBlock ∨ v'.ownBlock = some w.heap.size) → wpList P ops Q rest (a.put o.dst v') w') : wpList P ops Q (o :: rest) a w :=
  wpList_plain hgd fun _ hK => wp_append_any w s x t ho base e i z size bytes ht hi hz hsize hby hzs hsz v n xs hs hown B A m c news hx hr h1 h63 hbytes hbase fun v' w' h2 h3 h4 => hK _ _ (h v' w' h2 h3 h4)

theorem wpList_append_g {ops : Array Oper} {rest : List Oper} {o : Oper} {a : Act} {Q : Exit → Act → World → Prop} (hgd : Region.wanted o (yielded ops a.tmps) = true) (s x : Operand) (t : TypeId)
    (ho : o.op = .call { callee := .builtin .append, args := #[s, x], argTypes := #[t, t] })
    (base : Nat) (e : TypeId) (i : TypeInfo) (z : Value) (size bytes : Nat) (ht : P.underlying t = some (.slice e)) (hi : P.info? e = some i) (hz : i.zero = some z)
    (hsize : i.size = size) (hby : i.bytes = bytes) (hzs : z.cells.size = size) (hsz : 0 < size)
    (v : Value) (n : Nat) (xs : List Value) (hs : a.eval s = v) (hown : w.ownsRow base e size v n xs)
    (B : Nat) (A : Option Addr) (m c : Nat) (news : List Value) (hx : a.eval x = .slice A m c) (hr : Reads w B size A m news) (h1 : ∀ u ∈ news, u.oneCell' = true)
    (h63 : n + m ≤ maxLen) (hbytes : (n + m) * bytes ≤ 140737488355328) (hbase : base ≤ w.heap.size)
    (h : ∀ v' w', w'.ownsRow base e size v' (n + m) (xs ++ news) → w.grownBy w' v.ownBlock → (v'.ownBlock = v.ownBlock ∨ v'.ownBlock = some w.heap.size) → wpList P ops Q rest (a.put o.dst v') w') : wpList P ops Q (o :: rest) a w :=
  wpList_step fun K hK => by
    rw [if_pos hgd]
    exact wp_append_any w s x t ho base e i z size bytes ht hi hz hsize hby hzs hsz v n xs hs hown B A m c news hx hr h1 h63 hbytes hbase fun v' w' h2 h3 h4 => hK _ _ (h v' w' h2 h3 h4)

theorem step_append_any {ops : Array Oper} {o : Oper} {a : Act} {K : Act → World → Prop} {Q : Exit → Act → World → Prop} {E : Prop} (hgd : o.guard = none) (s x : Operand) (t : TypeId)
    (ho : o.op = .call { callee := .builtin .append, args := #[s, x], argTypes := #[t, t] })
    (base : Nat) (e : TypeId) (i : TypeInfo) (z : Value) (size bytes : Nat) (ht : P.underlying t = some (.slice e)) (hi : P.info? e = some i) (hz : i.zero = some z)
    (hsize : i.size = size) (hby : i.bytes = bytes) (hzs : z.cells.size = size) (hsz : 0 < size)
    (v : Value) (n : Nat) (xs : List Value) (hs : a.eval s = v) (hown : w.ownsRow base e size v n xs)
    (B : Nat) (A : Option Addr) (m c : Nat) (news : List Value) (hx : a.eval x = .slice A m c) (hr : Reads w B size A m news) (h1 : ∀ u ∈ news, u.oneCell' = true)
    (h63 : n + m ≤ maxLen) (hbytes : (n + m) * bytes ≤ 140737488355328) (hbase : base ≤ w.heap.size)
    (h : ∀ v' w', w'.ownsRow base e size v' (n + m) (xs ++ news) → w.grownBy w' v.ownBlock → (v'.ownBlock = v.ownBlock ∨ v'.ownBlock = some w.heap.size) → K (a.put o.dst v') w') :
    if Region.wanted o (yielded ops a.tmps) = true then Oper.wp P o a w K Q else E := by
  have hw : Region.wanted o (yielded ops a.tmps) = true := by simp [Region.wanted, hgd]
  rw [if_pos hw]
  exact wp_append_any w s x t ho base e i z size bytes ht hi hz hsize hby hzs hsz v n xs hs hown B A m c news hx hr h1 h63 hbytes hbase h
end

theorem own_slice {w : World} {base n size : Nat} {e : TypeId} {v : Value} {xs : List Value} (h : w.ownsRow base e size v n xs) :
    ∃ A c, v = .slice A n c ∧ n ≤ c ∧ c ≤ maxLen ∧ Reads w w.heap.size size A n xs := by
  rcases h.2 with ⟨rfl, rfl⟩ | ⟨g, cap, cur, rfl, _, _, h1, h2, _⟩
  · exact ⟨none, 0, rfl, Nat.le_refl _, Nat.zero_le _, Reads.of_own h⟩
  · exact ⟨some ⟨g, 0, none⟩, cap, rfl, h1, h2, Reads.of_own h⟩
theorem own_base {w : World} {base base' n size : Nat} {e : TypeId} {v : Value} {xs : List Value} (h : w.ownsRow base e size v n xs) (hb : ∀ k, v.ownBlock = some k → base' ≤ k) : w.ownsRow base' e size v n xs := by
  refine ⟨h.1, ?_⟩
  rcases h.2 with h0 | ⟨g, cap, cur, rfl, _, h1, h2, h3, h4, h5⟩
  · exact .inl h0
  · exact .inr ⟨g, cap, cur, rfl, hb g rfl, h1, h2, h3, h4, h5⟩
theorem own_below {w w' : World} {base n size B : Nat} {e : TypeId} {v : Value} {xs : List Value} (h : w.ownsRow base e size v n xs) (hb : Below B w w') (hB : ∀ k, v.ownBlock = some k → k < B) : w'.ownsRow base e size v n xs := by
  refine ⟨h.1, ?_⟩
  rcases h.2 with h0 | ⟨g, cap, cur, rfl, hg, h1, h2, h3, h4, h5⟩
  · exact .inl h0
  · exact .inr ⟨g, cap, cur, rfl, hg, (hb.block g (hB g rfl)).trans h1, h2, h3, h4, h5⟩
theorem own_below' {w w' : World} {base n size : Nat} {e : TypeId} {v : Value} {xs : List Value} (h : w.ownsRow base e size v n xs) (hb : Below w.heap.size w w') : w'.ownsRow base e size v n xs :=
  own_below h hb fun k hk => (h.lt k hk).2
/-- What a walk is told of a slice of integers that came in: nil, or a row of numbers, each fitting its kind. -/
def IsRow (k : IntKind) (w : World) (a : Option Addr) (len cap : Nat) (zs : List Int) : Prop :=
  (a = none ∧ len = 0 ∧ cap = 0 ∧ zs = []) ∨
  ∃ x, a = some x ∧ len ≤ cap ∧ cap ≤ maxLen ∧ len ≤ zs.length ∧ (∀ i, i < zs.length → w.cell? (x.add i) = some (.int k (zs.getD i 0))) ∧ ∀ n ∈ zs, (Lit.int k n).wf = true
theorem IsRow.reads {k : IntKind} {w : World} {a : Option Addr} {len cap : Nat} {zs : List Int} (h : IsRow k w a len cap zs) :
    len ≤ cap ∧ cap ≤ maxLen ∧ len ≤ zs.length ∧ (∀ n ∈ zs, (Lit.int k n).wf = true) ∧ Reads w w.heap.size 1 a len ((zs.take len).map (Value.int k)) := by
  rcases h with ⟨rfl, rfl, rfl, rfl⟩ | ⟨x, rfl, h1, h2, h3, h4, h5⟩
  · exact ⟨Nat.le_refl _, Nat.zero_le _, Nat.le_refl _, by simp, by simpa using Reads.none_⟩
  · refine ⟨h1, h2, h3, h5, by simp; omega, fun hn => ⟨x, rfl, ?_, fun j u hu => ?_⟩⟩
    · have := block_lt_of_cell (h4 0 (by omega))
      rwa [block_of_add] at this
    · obtain ⟨hj, rfl⟩ := List.getElem?_eq_some_iff.1 hu
      simp only [List.length_map, List.length_take] at hj
      rw [h4 j (by omega)]
      simp [List.getD, show j < zs.length by omega]
/-- Steps of a call that only makes memory. -/
theorem bt {a b c : World} (h : Below a.heap.size a b) (k : Below b.heap.size b c) : Below a.heap.size a c := h.trans (k.mono h.size)
theorem ba {a b : World} (h : Below a.heap.size a b) (o : Obj) : Below a.heap.size a (b.alloc o) := h.alloc h.size o
end Go.Proofs.YtnopljanpjmbgaaGreat
namespace Go.Proofs.YtnopljanpjmbgaaGreat
open Go.RowKit Go.ChangeShapes Go.WideShapes Go.Deep
set_option linter.unusedVariables false
/-- The cells of a value of type t can be read. -/
def Rd (P : Program) (w : World) (t : TypeId) (cs : List Value) : Prop :=
  ∃ (H : Type) (enc : TypeId × Value → H) (base : Nat) (spare : Nat → Bool) (held : Bool) (fuel : Nat) (x : DataW H × List MemPlace), DataW.trod enc P w base spare held fuel t cs = some x
/-- An argument. -/
def ArgIn (P : Program) (w : World) (t : TypeId) (v : Value) : Prop := Rd P w t v.cells.toList ∧ ∃ base, Value.okWide P w .any base t v
theorem ArgIn.mk {H : Type} {enc : TypeId × Value → H} {P : Program} {w : World} {b : Nat} {t : TypeId} {v : Value} {d : DataW H} {p : List MemPlace} {sp : Nat → Bool} {hd : Bool}
    (h : DataW.Trod enc P w b sp hd t v d p) (hv : ∃ base, Value.okWide P w .any base t v) : ArgIn P w t v := by
  obtain ⟨fuel, hf⟩ := h
  exact ⟨⟨H, enc, b, sp, hd, fuel, _, hf⟩, hv⟩
section
variable {P : Program} {w : World} {t e : TypeId} {cs : List Value} {v : Value}
theorem Rd.int {k : IntKind} (ht : P.underlying t = some (.int k)) (h : Rd P w t cs) : ∃ n, cs = [.int k n] ∧ (Lit.int k n).wf = true := by
  obtain ⟨H, enc, base, sp, hd, fuel, x, hx⟩ := h
  obtain ⟨n, h1, _, h2⟩ := DataW.trod_int ht hx
  exact ⟨n, h1, h2⟩
theorem Rd.bool (ht : P.underlying t = some .bool) (h : Rd P w t cs) : ∃ b, cs = [.bool b] := by
  obtain ⟨H, enc, base, sp, hd, fuel, x, hx⟩ := h
  obtain ⟨b, h1, _⟩ := DataW.trod_bool ht hx
  exact ⟨b, h1⟩
theorem Rd.struct {fs : Array Field} (ht : P.underlying t = some (.struct fs)) (h : Rd P w t cs) :
    cs.length = P.cellsOf t ∧ ∀ (i : Nat) (f : Field), fs[i]? = some f → Rd P w f.type ((cs.drop f.offset).take (P.cellsOf f.type)) := by
  obtain ⟨H, enc, base, sp, hd, fuel, x, hx⟩ := h
  obtain ⟨xs, n, _, _, h1, h2, h3⟩ := DataW.trod_struct ht hx
  refine ⟨h1, fun i f hf => ?_⟩
  have hi : i < fs.size := (Array.getElem?_eq_some_iff.1 hf).1
  have h4 := h3 i f hf
  rw [List.getElem?_eq_getElem (by omega : i < xs.length)] at h4
  exact ⟨H, enc, base, sp, hd, n, _, h4⟩
theorem Rd.slice (ht : P.underlying t = some (.slice e)) (hsz : 0 < P.cellsOf e) (h : Rd P w t cs) :
    ∃ (A : Option Addr) (n c : Nat) (xs : List Value), cs = [.slice A n c] ∧ n ≤ c ∧ c ≤ maxLen ∧ Reads w w.heap.size (P.cellsOf e) A n xs ∧
      ∀ i, i < n → Rd P w e ((xs.drop (i * P.cellsOf e)).take (P.cellsOf e)) := by
  obtain ⟨H, enc, base, sp, hd, fuel, x, hx⟩ := h
  rcases open_slice ht hx with ⟨rfl, _⟩ | ⟨a, len, cap, m, n, D, Pl, rfl, hb, hl, hm, hmm, _, hi⟩
  · exact ⟨none, 0, 0, [], rfl, Nat.le_refl _, Nat.zero_le _, ⟨by simp, fun h => absurd h (by omega)⟩, fun i h => absurd h (by omega)⟩
  · have hlm : len ≤ m := by rw [hmm]; split <;> omega
    generalize hs : P.cellsOf e = s at *
    -- the cells, element by element
    have build : ∀ k, k ≤ len → ∃ xs : List Value, xs.length = k * s ∧ (∀ j u, xs[j]? = some u → w.cell? (a.add j) = some u) ∧ ∀ i, i < k → Rd P w e ((xs.drop (i * s)).take s) := by
      intro k
      induction k with
      | zero => intro _; exact ⟨[], by simp, by simp, fun i h => absurd h (by omega)⟩
      | succ k ih =>
        intro hk
        obtain ⟨xs, h1, h2, h3⟩ := ih (by omega)
        obtain ⟨cs', hc, ht'⟩ := hi k (by omega)
        obtain ⟨hcl, _, hat⟩ : cs'.length = s ∧ True ∧ ∀ j, j < s → w.cell? ((a.add (k * s)).add j) = cs'[j]? := by
          obtain ⟨_, h5, h6⟩ := World.cells?_some hc
          exact ⟨h5, trivial, fun j hj => h6 j hj⟩
        refine ⟨xs ++ cs', by simp [h1, hcl, Nat.succ_mul], fun j u hu => ?_, fun i hik => ?_⟩
        · by_cases hj : j < k * s
          · rw [List.getElem?_append_left (by omega)] at hu
            exact h2 j u hu
          · rw [List.getElem?_append_right (by omega), h1] at hu
            have hjs : j - k * s < s := by
              have := (List.getElem?_eq_some_iff.1 hu).1
              omega
            have h7 := hat (j - k * s) hjs
            rw [add_of_add, show k * s + (j - k * s) = j by omega] at h7
            rw [h7, hu]
        · by_cases hik' : i < k
          · have hle : i * s + s ≤ k * s := by
              have := Nat.mul_le_mul_right s (by omega : i + 1 ≤ k)
              rw [Nat.succ_mul] at this; exact this
            have h8 : ((xs ++ cs').drop (i * s)).take s = (xs.drop (i * s)).take s := by
              rw [List.drop_append_of_le_length (by omega), List.take_append_of_le_length (by rw [List.length_drop]; omega)]
            rw [h8]; exact h3 i hik'
          · have : i = k := by omega
            subst this
            have h8 : ((xs ++ cs').drop (i * s)).take s = cs' := by
              rw [← h1, List.drop_left, ← hcl, List.take_length]
            rw [h8]
            exact ⟨H, enc, base, sp, hd, n, _, ht'⟩
    obtain ⟨xs, h1, h2, h3⟩ := build len (Nat.le_refl _)
    refine ⟨some a, len, cap, xs, rfl, hl, hm, ⟨h1, fun hn => ⟨a, rfl, ?_, h2⟩⟩, h3⟩
    have hx0 : 0 < xs.length := by rw [h1]; exact Nat.mul_pos hn hsz
    have := block_lt_of_cell (h2 0 _ (List.getElem?_eq_getElem hx0))
    rwa [block_of_add] at this
theorem ArgIn.int {k : IntKind} (ht : P.underlying t = some (.int k)) (h : ArgIn P w t v) : ∃ n, v = .int k n ∧ (Lit.int k n).wf = true := by
  obtain ⟨h1, b, h2⟩ := h
  obtain ⟨n, rfl⟩ := okWide_int ht h2
  obtain ⟨m, h3, h4⟩ := h1.int ht
  have e : n = m := by
    have : [Value.int k n] = [Value.int k m] := h3
    injection this with h5 _
    injection h5
  subst e
  exact ⟨n, rfl, h4⟩
theorem ArgIn.bool (ht : P.underlying t = some .bool) (h : ArgIn P w t v) : ∃ b, v = .bool b := by
  obtain ⟨h1, b, h2⟩ := h
  obtain ⟨n, rfl⟩ := okWide_bool ht h2
  exact ⟨n, rfl⟩
theorem ArgIn.struct {fs : Array Field} (ht : P.underlying t = some (.struct fs)) (h : ArgIn P w t v) :
    ∃ cs : Array Value, v = .agg cs ∧ cs.toList.length = P.cellsOf t ∧ ∀ (i : Nat) (f : Field), fs[i]? = some f → Rd P w f.type ((cs.toList.drop f.offset).take (P.cellsOf f.type)) := by
  obtain ⟨h1, b, h2⟩ := h
  obtain ⟨cs, rfl, h3⟩ := okWide_struct ht h2
  obtain ⟨h4, h5⟩ := Rd.struct ht h1
  exact ⟨cs, rfl, h4, h5⟩
theorem ArgIn.slice (ht : P.underlying t = some (.slice e)) (hsz : 0 < P.cellsOf e) (h : ArgIn P w t v) :
    ∃ (A : Option Addr) (n c : Nat) (xs : List Value), v = .slice A n c ∧ n ≤ c ∧ c ≤ maxLen ∧ Reads w w.heap.size (P.cellsOf e) A n xs ∧
      ∀ i, i < n → Rd P w e ((xs.drop (i * P.cellsOf e)).take (P.cellsOf e)) := by
  obtain ⟨h1, b, h2⟩ := h
  obtain ⟨A, n, c, rfl⟩ := okWide_slice ht h2
  obtain ⟨A', n', c', xs, h3, h4⟩ := h1.slice ht hsz
  have : [Value.slice A n c] = [Value.slice A' n' c'] := h3
  injection this with h5 _
  injection h5 with h6 h7 h8
  subst h6 h7 h8
  exact ⟨A, n, c, xs, rfl, h4⟩
/-- A slice of integers. -/
theorem ArgIn.row {k : IntKind} (ht : P.underlying t = some (.slice e)) (he : P.underlying e = some (.int k)) (hc : P.cellsOf e = 1) (h : ArgIn P w t v) :
    ∃ (A : Option Addr) (n c : Nat) (zs : List Int), v = .slice A n c ∧ IsRow k w A n c zs := by
  obtain ⟨⟨H, enc, base, sp, hd, fuel, x, hx⟩, b, h2⟩ := h
  obtain ⟨A, n, c, rfl⟩ := okWide_slice ht h2
  rcases open_ints ht he hc hx with ⟨hcs, _⟩ | ⟨a, len, cap, zs, hcs, _, hl, hm, hz, _, hcell, hwz⟩
  · have : [Value.slice A n c] = [Value.slice none 0 0] := hcs
    injection this with h5 _
    injection h5 with h6 h7 h8
    subst h6 h7 h8
    exact ⟨none, 0, 0, [], rfl, .inl ⟨rfl, rfl, rfl, rfl⟩⟩
  · have : [Value.slice A n c] = [Value.slice (some a) len cap] := hcs
    injection this with h5 _
    injection h5 with h6 h7 h8
    subst h6 h7 h8
    exact ⟨some a, n, c, zs, rfl,   .inr ⟨a, rfl, hl, hm, by rw [hz]; split <;> omega, hcell, hwz⟩⟩
/-- One cell an element. -/
theorem Rd.elem {xs : List Value} {n i : Nat} (h1 : P.cellsOf e = 1) (hn : xs.length = n * P.cellsOf e) (hi : i < n) (h : Rd P w e ((xs.drop (i * P.cellsOf e)).take (P.cellsOf e))) :
    ∃ x, xs[i]? = some x ∧ Rd P w e [x] := by
  rw [h1, Nat.mul_one] at h hn
  rw [List.drop_eq_getElem_cons (by omega)] at h
  exact ⟨xs[i], List.getElem?_eq_getElem (by omega), h⟩
end
end Go.Proofs.YtnopljanpjmbgaaGreat
namespace Go.Proofs.YtnopljanpjmbgaaGreat
open Go.RowKit
set_option linter.unusedVariables false
theorem wpList_min {P : Program} {ops : Array Oper} {rest : List Oper} {o : Oper} {a : Act} {w : World} {Q : Exit → Act → World → Prop} (hg : o.guard = none)
    (t : TypeId) (x y : Operand) (k : IntKind) (p q n : Int)
    (ho : o.op = .call { callee := .builtin .min, args := #[x, y], argTypes := #[t, t] }) (hx : a.eval x = .int k p) (hy : a.eval y = .int k q) (hn : (if q < p then q else p) = n)
    (h : wpList P ops Q rest (a.put o.dst (.int k n)) w) : wpList P ops Q (o :: rest) a w := by
  refine wpList_plain hg fun K hK => ?_
  have hK' := hK _ _ h
  unfold Oper.wp execOp
  simp only [ho, resolve, invoke, builtin, Sem.run_bind, Sem.run_pure, Result.andThen_ok, List.map_toArray, List.map_cons, List.map_nil, hx, hy]
  simp [go_sem]
  rw [hn]
  exact hK'
theorem wpList_max {P : Program} {ops : Array Oper} {rest : List Oper} {o : Oper} {a : Act} {w : World} {Q : Exit → Act → World → Prop} (hg : o.guard = none)
    (t : TypeId) (x y : Operand) (k : IntKind) (p q n : Int)
    (ho : o.op = .call { callee := .builtin .max, args := #[x, y], argTypes := #[t, t] }) (hx : a.eval x = .int k p) (hy : a.eval y = .int k q) (hn : (if p < q then q else p) = n)
    (h : wpList P ops Q rest (a.put o.dst (.int k n)) w) : wpList P ops Q (o :: rest) a w := by
  refine wpList_plain hg fun K hK => ?_
  have hK' := hK _ _ h
  unfold Oper.wp execOp
  simp only [ho, resolve, invoke, builtin, Sem.run_bind, Sem.run_pure, Result.andThen_ok, List.map_toArray, List.map_cons, List.map_nil, hx, hy]
  simp [go_sem]
  rw [hn]
  exact hK'
end Go.Proofs.YtnopljanpjmbgaaGreat
namespace Go.Proofs.YtnopljanpjmbgaaGreat
open Go.RowKit
set_option linter.unusedVariables false
/-- A byte as a number. -/
def n8 (b : BitVec 8) : Int := b.toNat
theorem n8_bd (x : BitVec 8) : 0 ≤ n8 x ∧ n8 x < 256 := by unfold n8; have := x.isLt; omega
def u8v (b : BitVec 8) : Value := .int .u8 (n8 b)
theorem n8_eq {x y : BitVec 8} : n8 x = n8 y ↔ x = y := by
  unfold n8
  exact ⟨fun h => BitVec.eq_of_toNat_eq (by omega), fun h => by rw [h]⟩
/-- Bytes in memory. -/
def u8s (l : List (BitVec 8)) : List Value := l.map u8v
theorem u8s_length (l : List (BitVec 8)) : (u8s l).length = l.length := by simp [u8s]
theorem u8s_at {l : List (BitVec 8)} {k : Nat} {u : Value} (h : (u8s l)[k]? = some u) : ∃ hk : k < l.length, u = .int .u8 (n8 l[k]) := by
  simp only [u8s, List.getElem?_map, Option.map_eq_some_iff] at h
  obtain ⟨b, hb, rfl⟩ := h
  obtain ⟨hk, rfl⟩ := List.getElem?_eq_some_iff.1 hb
  exact ⟨hk, rfl⟩
theorem u8s_get {l : List (BitVec 8)} {k : Nat} (hk : k < l.length) : (u8s l)[k]? = some (.int .u8 (n8 l[k])) := by
  simp [u8s, u8v, hk]
theorem take_snoc {α : Type} (l : List α) (k : Nat) (h : k < l.length) : l.take (k + 1) = l.take k ++ [l[k]] := by
  rw [List.take_succ_eq_append_getElem h]
theorem u8s_append (l m : List (BitVec 8)) : u8s l ++ u8s m = u8s (l ++ m) := by simp [u8s]
theorem u8s_take (l : List (BitVec 8)) (k : Nat) : u8s (l.take k) = (u8s l).take k := by simp [u8s]
theorem u8s_drop (l : List (BitVec 8)) (k : Nat) : u8s (l.drop k) = (u8s l).drop k := by simp [u8s]
theorem u8s_set (l : List (BitVec 8)) (q : Nat) (b : BitVec 8) : u8s (l.set q b) = (u8s l).set q (.int .u8 (n8 b)) := by
  simp [u8s, List.map_set, u8v]
theorem u8s_one (l : List (BitVec 8)) : ∀ u ∈ u8s l, u.oneCell' = true := by
  intro u hu
  simp only [u8s, List.mem_map] at hu
  obtain ⟨b, _, rfl⟩ := hu
  rfl
theorem u8s_inj : ∀ {l m : List (BitVec 8)}, u8s l = u8s m → l = m := by
  intro l
  induction l with
  | nil => intro m h; cases m with
    | nil => rfl
    | cons b m => simp [u8s] at h
  | cons a l ih => intro m h; cases m with
    | nil => simp [u8s] at h
    | cons b m =>
      simp only [u8s, List.map_cons, List.cons.injEq, u8v, Value.int.injEq, true_and] at h
      rw [n8_eq.1 h.1, ih (m := m) h.2]
def zbytes (k : Nat) : List (BitVec 8) := List.replicate k 0#8
theorem zbytes_length (k : Nat) : (zbytes k).length = k := by simp [zbytes]
theorem n8_zero' : n8 0#8 = 0 := by unfold n8; rfl
theorem zcells (k : Nat) : (madeCells (Value.int .u8 0).cells (k * 1)).toList = u8s (zbytes k) := by
  rw [Nat.mul_one]
  show (madeCells #[Value.int .u8 0] k).toList = _
  rw [toList_madeCells_one]
  simp [u8s, zbytes, u8v, n8]
theorem u8_of_wf {n : Int} (h : (Lit.int .u8 n).wf = true) : ∃ b : BitVec 8, n = n8 b := by
  simp [Lit.wf, IntKind.min, IntKind.max, IntKind.signed, IntKind.bits] at h
  exact ⟨BitVec.ofNat 8 n.toNat, by unfold n8; simp; omega⟩
theorem i64_of_wf {n : Int} (h : (Lit.int .i64 n).wf = true) : -9223372036854775808 ≤ n ∧ n ≤ 9223372036854775807 := by
  simp [Lit.wf, IntKind.min, IntKind.max, IntKind.signed, IntKind.bits] at h
  omega
theorem u16_of_wf {n : Int} (h : (Lit.int .u16 n).wf = true) : 0 ≤ n ∧ n < 65536 := by
  simp [Lit.wf, IntKind.min, IntKind.max, IntKind.signed, IntKind.bits] at h
  omega
theorem bytes_of_all : ∀ zs : List Value, (∀ k, k < zs.length → ∃ b : BitVec 8, zs[k]? = some (.int .u8 (n8 b))) → ∃ l : List (BitVec 8), zs = u8s l := by
  intro zs
  induction zs with
  | nil => intro _; exact ⟨[], rfl⟩
  | cons z zs ih =>
    intro h
    obtain ⟨b, hb⟩ := h 0 (by simp)
    obtain ⟨l, rfl⟩ := ih (fun k hk => by simpa using h (k + 1) (by simpa using hk))
    have : z = .int .u8 (n8 b) := by simpa using hb
    subst this
    exact ⟨b :: l, rfl⟩
theorem reads_one {w : World} {a : Addr} {b : BitVec 8} (h : w.cell? a = some (.int .u8 (n8 b))) {B : Nat} (hB : a.block < B) : Reads w B 1 (some a) 1 (u8s [b]) := by
  refine ⟨rfl, fun _ => ⟨a, rfl, hB, fun j u hu => ?_⟩⟩
  obtain ⟨hk, rfl⟩ := u8s_at hu
  have : j = 0 := by simpa using hk
  subst this
  exact h
theorem u8s_of_wf : ∀ zs : List Int, (∀ n ∈ zs, (Lit.int .u8 n).wf = true) → ∃ l : List (BitVec 8), zs.map (Value.int .u8) = u8s l := by
  intro zs
  induction zs with
  | nil => intro _; exact ⟨[], rfl⟩
  | cons z zs ih =>
    intro h
    obtain ⟨b, rfl⟩ := u8_of_wf (h z (by simp))
    obtain ⟨l, hl⟩ := ih (fun n hn => h n (by simp [hn]))
    exact ⟨b :: l, by simp [u8s, u8v, hl]⟩
/-- Bytes that came in. -/
theorem IsRow.bytes {w : World} {a : Option Addr} {len cap : Nat} {zs : List Int} (h : IsRow .u8 w a len cap zs) :
    ∃ l : List (BitVec 8), len = l.length ∧ len ≤ maxLen ∧ len ≤ cap ∧ cap ≤ maxLen ∧ Reads w w.heap.size 1 a len (u8s l) := by
  obtain ⟨h1, h2, h3, h4, h5⟩ := h.reads
  obtain ⟨l, hl⟩ := u8s_of_wf (zs.take len) (fun n hn => h4 n (List.mem_of_mem_take hn))
  rw [hl] at h5
  have := h5.1
  rw [u8s_length] at this
  exact ⟨l, by omega, by omega, h1, h2, h5⟩
theorem add_zero_addr (b j : Nat) : (⟨b, 0, none⟩ : Addr).add j = ⟨b, j, none⟩ := by unfold Addr.add; split <;> simp_all
theorem reads_new (W : World) (t : TypeId) (cs : Array Value) (fr : Nat × Nat) (l : List (BitVec 8)) (n : Nat) (hn : n = l.length) (hcs : cs = (u8s l).toArray) :
    Reads (W.alloc (.cells cs t fr)) (W.heap.size + 1) 1 (some ⟨W.heap.size, 0, none⟩) n (u8s l) := by
  subst hcs hn
  refine ⟨by rw [u8s_length]; omega, fun _ => ⟨_, rfl, by simp, fun j u hu => ?_⟩⟩
  rw [add_zero_addr, cell_of_row _ _ j _ t fr (heap_alloc_new W _)]
  simpa using hu
theorem Reads.take {w : World} {B : Nat} {A : Option Addr} {n k : Nat} {l : List (BitVec 8)} (h : Reads w B 1 A n (u8s l)) (hk : k ≤ n) : Reads w B 1 A k (u8s (l.take k)) := by
  have hl := h.1
  rw [u8s_length] at hl
  refine ⟨by rw [u8s_length, List.length_take]; omega, fun hk0 => ?_⟩
  obtain ⟨ad, e, hb, hc⟩ := h.2 (by omega)
  refine ⟨ad, e, hb, fun j u hu => hc j u ?_⟩
  rw [← hu]
  have hj : j < k := by
    have := (List.getElem?_eq_some_iff.1 hu).1
    rw [u8s_length, List.length_take] at this; omega
  simp [u8s, hj]
/-! ### What has changed: only blocks in F, and new ones -/
structure Chg (F : Nat → Prop) (w w' : World) : Prop where
  os : w'.os = w.os
  tape : w'.tape = w.tape
  output : w'.output = w.output
  size : w.heap.size ≤ w'.heap.size
  block : ∀ k, k < w.heap.size → ¬ F k → w'.heap[k]? = w.heap[k]?
theorem Chg.refl (F : Nat → Prop) (w : World) : Chg F w w := ⟨rfl, rfl, rfl, Nat.le_refl _, fun _ _ _ => rfl⟩
theorem Chg.trans {F G : Nat → Prop} {a b c : World} (h : Chg F a b) (k : Chg G b c) (hG : ∀ i, i < a.heap.size → G i → F i) : Chg F a c :=
  ⟨k.os.trans h.os, k.tape.trans h.tape, k.output.trans h.output, Nat.le_trans h.size k.size, fun i hi hn => (k.block i (Nat.lt_of_lt_of_le hi h.size) (fun e => hn (hG i hi e))).trans (h.block i hi hn)⟩
theorem Chg.mono {F G : Nat → Prop} {a b : World} (h : Chg F a b) (hG : ∀ i, i < a.heap.size → F i → G i) : Chg G a b :=
  ⟨h.os, h.tape, h.output, h.size, fun i hi hn => h.block i hi (fun e => hn (hG i hi e))⟩
theorem Chg.drewN {F : Nat → Prop} {a b : World} (h : Chg F a b) (n : Nat) : Chg F a (b.drewN n) := ⟨h.os, h.tape, h.output, h.size, h.block⟩
theorem Chg.drew {F : Nat → Prop} {a b : World} (h : Chg F a b) : Chg F a b.drew := ⟨h.os, h.tape, h.output, h.size, h.block⟩
theorem Chg.alloc {F : Nat → Prop} {a b : World} (h : Chg F a b) (o : Obj) : Chg F a (b.alloc o) :=
  ⟨h.os, h.tape, h.output, Nat.le_trans h.size (by simp), fun i hi hn => (Below.heap_alloc b o i (Nat.lt_of_lt_of_le hi h.size)).trans (h.block i hi hn)⟩
theorem Chg.setCell {F : Nat → Prop} {a b : World} (h : Chg F a b) {p : Addr} (hp : F p.block ∨ a.heap.size ≤ p.block) (u : Value) : Chg F a (b.setCell p u) :=
  ⟨h.os, h.tape, h.output, by simpa [World.setCell] using h.size, fun i hi hn => (Below.heap_setCell b p u i (by
    rintro rfl
    rcases hp with hp | hp
    · exact hn hp
    · omega)).trans (h.block i hi hn)⟩
theorem Chg.grown {F : Nat → Prop} {a b c : World} {row : Option Nat} (h : Chg F a b) (k : b.grownBy c row) (hr : ∀ q, row = some q → F q ∨ a.heap.size ≤ q) : Chg F a c :=
  ⟨k.os.trans h.os, k.tape.trans h.tape, k.output.trans h.output, Nat.le_trans h.size k.size, fun i hi hn => (k.block i (Nat.lt_of_lt_of_le hi h.size) (fun e => by
    rcases hr i e.symm with h1 | h1
    · exact hn h1
    · omega)).trans (h.block i hi hn)⟩
theorem Chg.of_below {F : Nat → Prop} {a b : World} (h : Below a.heap.size a b) : Chg F a b := ⟨h.os, h.tape, h.output, h.size, fun i hi _ => h.block i hi⟩
theorem Chg.below {F : Nat → Prop} {a b : World} (h : Chg F a b) {B : Nat} (hB : B ≤ a.heap.size) (hF : ∀ k, F k → B ≤ k) : Below B a b :=
  ⟨h.os, h.tape, h.output, h.size, fun i hi => h.block i (by omega) (fun e => by have := hF i e; omega)⟩
theorem Blk.chg {F : Nat → Prop} {w w' : World} {g : Nat} {t : TypeId} {cs : Array Value} (h : Blk w g t cs) (hc : Chg F w w') (hg : ¬ F g) : Blk w' g t cs := (hc.block g h.lt hg).trans h
theorem own_chg {F : Nat → Prop} {w w' : World} {base n size : Nat} {e : TypeId} {v : Value} {xs : List Value} (h : w.ownsRow base e size v n xs) (hc : Chg F w w') (hF : ∀ k, v.ownBlock = some k → ¬ F k) : w'.ownsRow base e size v n xs := by
  have hlt := h.lt
  refine ⟨h.1, ?_⟩
  rcases h.2 with h0 | ⟨g, cap, cur, rfl, hg, h1, h2, h3, h4, h5⟩
  · exact .inl h0
  · exact .inr ⟨g, cap, cur, rfl, hg, (hc.block g (hlt g rfl).2 (hF g rfl)).trans h1, h2, h3, h4, h5⟩
theorem Reads.chg {F : Nat → Prop} {w w' : World} {B size n : Nat} {A : Option Addr} {xs : List Value} (h : Reads w B size A n xs) (hc : Chg F w w') (hB : B ≤ w.heap.size) (hF : ∀ k, k < B → ¬ F k) : Reads w' B size A n xs :=
  h.keep fun p hp => World.cell?_of_block (hc.block p.block (by omega) (hF _ hp))
attribute [irreducible] n8
end Go.Proofs.YtnopljanpjmbgaaGreat
namespace Go.Proofs.YtnopljanpjmbgaaGreat
open Go.RowKit
set_option linter.unusedVariables false
/-- A statement about the world that is about some blocks alone. -/
structure Ob where
  P : World → Prop
  F : Nat → Prop
  keep : ∀ {w w' : World} {G : Nat → Prop}, Chg G w w' → (∀ k, F k → ¬ G k) → P w → P w'
  lt : ∀ {w : World}, P w → ∀ k, F k → k < w.heap.size
/-- Objects of a call's own, apart from each other; what was there ahead of w0's block B is as it was. -/
structure Sep (B : Nat) (w0 w : World) (os : List Ob) : Prop where
  bel : Below B w0 w
  big : B ≤ w.heap.size
  all : ∀ o, o ∈ os → o.P w ∧ ∀ k, o.F k → B ≤ k
  apart : os.Pairwise (fun a b => ∀ k, a.F k → ¬ b.F k)
section
variable {B : Nat} {w0 w w' : World} {os : List Ob}
theorem Sep.start (w : World) : Sep w.heap.size w w [] := ⟨Below.refl _ _, Nat.le_refl _, (fun o ho => by cases ho), List.Pairwise.nil⟩
theorem Sep.get (h : Sep B w0 w os) {o : Ob} (ho : o ∈ os) : o.P w := (h.all o ho).1
theorem Sep.below (h : Sep B w0 w os) (hb : Below w.heap.size w w') : Sep B w0 w' os :=
  ⟨h.bel.trans (hb.mono h.big), Nat.le_trans h.big hb.size, fun o ho => ⟨o.keep (Chg.of_below (F := fun _ => False) hb) (fun _ _ h => h) (h.all o ho).1, (h.all o ho).2⟩, h.apart⟩
theorem Sep.drewN (h : Sep B w0 w os) (n : Nat) : Sep B w0 (w.drewN n) os := h.below ⟨rfl, rfl, rfl, Nat.le_refl _, fun _ _ => rfl⟩
theorem Sep.drew (h : Sep B w0 w os) : Sep B w0 w.drew os := h.below ⟨rfl, rfl, rfl, Nat.le_refl _, fun _ _ => rfl⟩
theorem Sep.alloc (h : Sep B w0 w os) (o : Obj) : Sep B w0 (w.alloc o) os := h.below ((Below.refl _ _).alloc (Nat.le_refl _) o)
theorem Sep.sub (h : Sep B w0 w os) {os' : List Ob} (hs : os'.Sublist os) : Sep B w0 w os' :=
  ⟨h.bel, h.big, fun o ho => h.all o (hs.subset ho), h.apart.sublist hs⟩
theorem Sep.perm (h : Sep B w0 w os) {os' : List Ob} (hs : os.Perm os') : Sep B w0 w os' :=
  ⟨h.bel, h.big, fun o ho => h.all o (hs.mem_iff.2 ho), h.apart.perm hs (fun hab k hb ha => hab k ha hb)⟩
/-- A new object. -/
theorem Sep.add (h : Sep B w0 w os) {a : Ob} (hb : Below w.heap.size w w') (ha : a.P w') (hF : ∀ k, a.F k → w.heap.size ≤ k) : Sep B w0 w' (a :: os) := by
  have h' := h.below hb
  refine ⟨h'.bel, h'.big, fun o ho => ?_, .cons (fun o ho k hk hk2 => ?_) h'.apart⟩
  · rcases List.mem_cons.1 ho with rfl | ho
    · exact ⟨ha, fun k hk => Nat.le_trans h.big (hF k hk)⟩
    · exact h'.all o ho
  · have h1 := hF k hk
    have h2 := o.lt (h.all o ho).1 k hk2
    omega
/-- The first object has turned. -/
theorem Sep.step {a a' : Ob} (h : Sep B w0 w (a :: os)) (hc : Chg a.F w w') (ha : a'.P w') (hF : ∀ k, a'.F k → a.F k ∨ w.heap.size ≤ k) : Sep B w0 w' (a' :: os) := by
  obtain ⟨hd, ht⟩ := List.pairwise_cons.1 h.apart
  have hbase : ∀ k, a.F k → B ≤ k := (h.all a (.head _)).2
  refine ⟨h.bel.trans ⟨hc.os, hc.tape, hc.output, hc.size, fun k hk => hc.block k (by have := h.big; omega) (fun e => by have := hbase k e; omega)⟩, Nat.le_trans h.big hc.size, fun o ho => ?_, .cons (fun o ho k hk hk2 => ?_) ht⟩
  · rcases List.mem_cons.1 ho with rfl | ho
    · exact ⟨ha, fun k hk => by
        rcases hF k hk with e | e
        · exact hbase k e
        · have := h.big; omega⟩
    · exact ⟨o.keep hc (fun k hk hk2 => hd o ho k hk2 hk) (h.all o (.tail _ ho)).1, (h.all o (.tail _ ho)).2⟩
  · rcases hF k hk with e | e
    · exact hd o ho k e hk2
    · have := o.lt (h.all o (.tail _ ho)).1 k hk2; omega
theorem Sep.step1 {x a a' : Ob} (h : Sep B w0 w (x :: a :: os)) (hc : Chg a.F w w') (ha : a'.P w') (hF : ∀ k, a'.F k → a.F k ∨ w.heap.size ≤ k) : Sep B w0 w' (x :: a' :: os) :=
  ((h.perm (.swap _ _ _)).step hc ha hF).perm (.swap _ _ _)
theorem Sep.step2 {x y a a' : Ob} (h : Sep B w0 w (x :: y :: a :: os)) (hc : Chg a.F w w') (ha : a'.P w') (hF : ∀ k, a'.F k → a.F k ∨ w.heap.size ≤ k) : Sep B w0 w' (x :: y :: a' :: os) :=
  ((h.perm (((List.Perm.swap _ _ _).cons x).trans (.swap _ _ _))).step hc ha hF).perm (((List.Perm.swap _ _ _)).trans (((List.Perm.swap _ _ _)).cons _))
end
/-- A block. -/
def blkOb (g : Nat) (t : TypeId) (cs : Array Value) : Ob where
  P w := Blk w g t cs
  F k := k = g
  keep hc hF h := h.chg hc (hF _ rfl)
  lt h k hk := by subst hk; exact h.lt
theorem Sep.newBlk {B : Nat} {w0 w : World} {os : List Ob} (h : Sep B w0 w os) (g : Nat) (t : TypeId) (cs : Array Value) (hg : g = w.heap.size) : Sep B w0 (w.alloc (.cells cs t)) (blkOb g t cs :: os) := by
  subst hg
  exact h.add (a := blkOb w.heap.size t cs) ((Below.refl _ _).alloc (Nat.le_refl _) _) (Blk.new w t cs) (fun k hk => by have : k = w.heap.size := hk; omega)
theorem Sep.setBlk {B : Nat} {w0 w : World} {os : List Ob} {g : Nat} {t : TypeId} {cs : Array Value} (h : Sep B w0 w (blkOb g t cs :: os)) (i : Nat) (u : Value) : Sep B w0 (w.setCell ⟨g, i, none⟩ u) (blkOb g t (cs.setIfInBounds i u) :: os) :=
  h.step (a' := blkOb g t (cs.setIfInBounds i u)) (Chg.setCell (Chg.refl (blkOb g t cs).F w) (p := ⟨g, i, none⟩) (.inl rfl) u) (Blk.set_ (show Blk w g t cs from h.get (.head _)) i u) (fun _ h => .inl h)
/-- A row of a call's own. -/
def rowOb (e : TypeId) (size : Nat) (v : Value) (n : Nat) (xs : List Value) : Ob where
  P w := w.ownsRow 0 e size v n xs
  F k := v.ownBlock = some k
  keep hc hF h := own_chg h hc hF
  lt h k hk := (h.lt k hk).2
end Go.Proofs.YtnopljanpjmbgaaGreat
namespace Go.Proofs.YtnopljanpjmbgaaGreat
open Go.RowKit
set_option linter.unusedVariables false
/-- An object made of cells alone. -/
def CellOb (o : Ob) : Prop := ∀ w, o.P w → ∀ k, o.F k → ∃ ob, w.heap[k]? = some ob ∧ ob.isCells = true
theorem cellOb_blk (g : Nat) (t : TypeId) (cs : Array Value) : CellOb (blkOb g t cs) := fun w h k hk => by
  have hk' : k = g := hk
  subst hk'
  exact ⟨_, h, rfl⟩
theorem cellOb_row (e : TypeId) (size : Nat) (v : Value) (n : Nat) (xs : List Value) : CellOb (rowOb e size v n xs) := fun w h k hk => by
  have h' : w.ownsRow 0 e size v n xs := h
  have hk' : v.ownBlock = some k := hk
  rcases h'.2 with ⟨rfl, _⟩ | ⟨g, cap, cur, rfl, _, hh, _⟩
  · simp [Value.ownBlock] at hk'
  · have : g = k := by simpa [Value.ownBlock] using hk'
    subst this
    exact ⟨_, hh, rfl⟩
/-- All of these objects are made of cells alone. -/
def AllCells (os : List Ob) : Prop := ∀ o, o ∈ os → CellOb o
theorem AllCells.nil : AllCells [] := fun o h => by cases h
theorem AllCells.cons {a : Ob} {os : List Ob} (h : CellOb a) (k : AllCells os) : AllCells (a :: os) := fun o ho => by
  rcases List.mem_cons.1 ho with rfl | ho
  · exact h
  · exact k o ho
theorem Sep.others {B : Nat} {w0 w w' : World} {os : List Ob} {row : Option Nat} (hC : AllCells os) (h : Sep B w0 w os) (hg : w.grownBy w' row)
    (hr : ∀ r, row = some r → B ≤ r ∧ ∃ o : Obj, w.heap[r]? = some o ∧ o.isCells = false) : Sep B w0 w' os := by
  have hb : Below B w w' := (Below.refl B w).grown hg h.big (fun k e => (hr k e).1)
  refine ⟨h.bel.trans hb, Nat.le_trans h.big hb.size, fun o ho => ⟨o.keep (G := fun k => row = some k) ((Chg.refl _ w).grown hg (fun q hq => .inl hq)) (fun k hk hrow => ?_) (h.all o ho).1, (h.all o ho).2⟩, h.apart⟩
  obtain ⟨ob, h1, h2⟩ := hC o ho w (h.all o ho).1 k hk
  obtain ⟨_, ob', h3, h4⟩ := hr k hrow
  rw [h1] at h3
  injection h3 with h3
  subst h3
  rw [h2] at h4
  cases h4
theorem ownFrom_sep {β : Type} {B B' : Nat} {w0 : World} {os : β → List Ob} (hB : B ≤ B') (hC : ∀ s, AllCells (os s)) : OwnFrom B' (fun (s : β) W => Sep B w0 W (os s)) :=
  fun s W W' row h hg hr => h.others (hC s) hg (fun r e => ⟨by have := (hr r e).1; omega, (hr r e).2⟩)
theorem ownFrom_true {β : Type} {B : Nat} {p : β → Prop} : OwnFrom B (fun (s : β) (_ : World) => p s) := fun _ _ _ _ h _ _ => h
theorem keepsOthers_chg {F : Nat → Prop} {W W' : World} (h : Chg F W W') (hF : ∀ k, F k → ∃ ob, W.heap[k]? = some ob ∧ ob.isCells = true) : KeepsOthers W W' :=
  ⟨h.size, fun k o hk ho => by
    have hlt : k < W.heap.size := (Array.getElem?_eq_some_iff.1 hk).1
    rw [h.block k hlt (fun e => by
      obtain ⟨ob, h1, h2⟩ := hF k e
      rw [h1] at hk
      injection hk with hk
      subst hk
      rw [h2] at ho
      cases ho)]
    exact hk⟩
theorem keepsOthers_below {W W' : World} (h : Below W.heap.size W W') : KeepsOthers W W' :=
  keepsOthers_chg (F := fun _ => False) (Chg.of_below h) (fun _ e => e.elim)
theorem KeepsOthers.step {B : Nat} {w0 W W' : World} {a : Ob} {os : List Ob} (h : Sep B w0 W os) (ha : a ∈ os) (hC : CellOb a) (hc : Chg a.F W W') : KeepsOthers W W' :=
  keepsOthers_chg hc (fun k hk => hC W (h.get ha) k hk)
end Go.Proofs.YtnopljanpjmbgaaGreat

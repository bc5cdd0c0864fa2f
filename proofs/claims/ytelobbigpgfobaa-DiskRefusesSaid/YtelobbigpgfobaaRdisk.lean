/-
  The document's disk in memory (drumlinref10.Disk): its block, its row of slots, their bytes; what was written once stays. No condition.
-/
import Derived.Test.YtelobbigpgfobaaDisk3
import Derived.Test.YtelobbigpgfobaaCells
namespace Go.Proofs.Ytelobbigpgfobaa
open Go.RowKit
set_option linter.unusedVariables false
/-- Where each slot's bytes lie: address and capacity. -/
abbrev Bts := Nat → Option Addr × Nat
def rcell (D : Nat → SlotD) (bs : Bts) (q : Nat) : Value :=
  if q % 3 = 0 then .int .i64 ((D (q / 3)).size : Int) else if q % 3 = 1 then .slice (bs (q / 3)).1 (D (q / 3)).bytes.length (bs (q / 3)).2 else .int .i64 ((D (q / 3)).dur : Int)
theorem rcell_0 (D : Nat → SlotD) (bs : Bts) (i : Nat) : rcell D bs (i * 3) = .int .i64 ((D i).size : Int) := by
  unfold rcell
  rw [if_pos (by omega), show i * 3 / 3 = i by omega]
theorem rcell_1 (D : Nat → SlotD) (bs : Bts) (i : Nat) : rcell D bs (i * 3 + 1) = .slice (bs i).1 (D i).bytes.length (bs i).2 := by
  unfold rcell
  rw [if_neg (by omega), if_pos (by omega), show (i * 3 + 1) / 3 = i by omega]
theorem rcell_2 (D : Nat → SlotD) (bs : Bts) (i : Nat) : rcell D bs (i * 3 + 2) = .int .i64 ((D i).dur : Int) := by
  unfold rcell
  rw [if_neg (by omega), if_neg (by omega), show (i * 3 + 2) / 3 = i by omega]
theorem rcell_upd (D : Nat → SlotD) (bs : Bts) (i : Nat) (x : SlotD) (b : Option Addr × Nat) {q : Nat} (h : q / 3 ≠ i) : rcell (updF D i x) (updF bs i b) q = rcell D bs q := by
  unfold rcell
  rw [updF_other _ _ h, updF_other _ _ h]
def rrow (D : Nat → SlotD) (bs : Bts) (n : Nat) : List Value := (List.range (n * 3)).map (rcell D bs)
theorem rrow_length (D : Nat → SlotD) (bs : Bts) (n : Nat) : (rrow D bs n).length = n * 3 := by simp [rrow]
theorem rrow_at {D : Nat → SlotD} {bs : Bts} {n q : Nat} (h : q < n * 3) : (rrow D bs n)[q]? = some (rcell D bs q) := by simp [rrow, h]
theorem rrow_one (D : Nat → SlotD) (bs : Bts) (n : Nat) : ∀ u ∈ rrow D bs n, u.oneCell' = true := by
  intro u hu
  simp only [rrow, List.mem_map] at hu
  obtain ⟨q, _, rfl⟩ := hu
  unfold rcell
  split
  · rfl
  · split <;> rfl
theorem rrow_snoc (D : Nat → SlotD) (bs : Bts) (n : Nat) : rrow D bs n ++ [.int .i64 ((D n).size : Int), .slice (bs n).1 (D n).bytes.length (bs n).2, .int .i64 ((D n).dur : Int)] = rrow D bs (n + 1) := by
  unfold rrow
  rw [show (n + 1) * 3 = n * 3 + 1 + 1 + 1 by omega]
  simp only [List.range_succ, List.map_append, List.map_cons, List.map_nil, List.append_assoc, List.cons_append, List.nil_append]
  rw [rcell_0, rcell_1, rcell_2]
theorem rrow_set (D : Nat → SlotD) (bs : Bts) {n i : Nat} (h : i < n) (x : SlotD) (b : Option Addr × Nat) :
    (((rrow D bs n).set (i * 3) (.int .i64 (x.size : Int))).set (i * 3 + 1) (.slice b.1 x.bytes.length b.2)).set (i * 3 + 2) (.int .i64 (x.dur : Int)) = rrow (updF D i x) (updF bs i b) n := by
  apply List.ext_getElem?
  intro q
  by_cases hq : q < n * 3
  · rw [rrow_at hq]
    by_cases h2 : q = i * 3 + 2
    · subst h2
      rw [List.getElem?_set_self (by simpa [rrow_length] using hq), rcell_2, updF_same]
    rw [List.getElem?_set_ne (by omega)]
    by_cases h1 : q = i * 3 + 1
    · subst h1
      rw [List.getElem?_set_self (by simpa [rrow_length] using hq), rcell_1, updF_same, updF_same]
    rw [List.getElem?_set_ne (by omega)]
    by_cases h0 : q = i * 3
    · subst h0
      rw [List.getElem?_set_self (by simpa [rrow_length] using hq), rcell_0, updF_same]
    rw [List.getElem?_set_ne (by omega), rrow_at hq, rcell_upd _ _ _ _ _ (by omega)]
  · rw [List.getElem?_eq_none (by simp [rrow_length]; omega), List.getElem?_eq_none (by rw [rrow_length]; omega)]
/-- Bytes that lie in the blocks S. -/
def BytesAt (w : World) (S : Nat → Prop) (A : Option Addr) (c : Nat) (l : List (BitVec 8)) : Prop :=
  l.length ≤ c ∧ c ≤ maxLen ∧ (0 < l.length → ∃ ad, A = some ad ∧ S ad.block ∧ ∀ j u, (u8s l)[j]? = some u → w.cell? (ad.add j) = some u)
theorem BytesAt.reads {w : World} {S : Nat → Prop} {A : Option Addr} {c : Nat} {l : List (BitVec 8)} (h : BytesAt w S A c l) (hS : ∀ k, S k → k < w.heap.size) : Reads w w.heap.size 1 A l.length (u8s l) :=
  ⟨by rw [u8s_length]; omega, fun hn => by
    obtain ⟨ad, e, h1, h2⟩ := h.2.2 hn
    exact ⟨ad, e, hS _ h1, h2⟩⟩
theorem BytesAt.chg {F : Nat → Prop} {w w' : World} {S : Nat → Prop} {A : Option Addr} {c : Nat} {l : List (BitVec 8)} (h : BytesAt w S A c l) (hS : ∀ k, S k → k < w.heap.size) (hc : Chg F w w') (hF : ∀ k, S k → ¬ F k) : BytesAt w' S A c l :=
  ⟨h.1, h.2.1, fun hn => by
    obtain ⟨ad, e, h1, h2⟩ := h.2.2 hn
    exact ⟨ad, e, h1, fun j u hu => (World.cell?_of_block (hc.block (ad.add j).block (by rw [block_of_add]; exact hS _ h1) (by rw [block_of_add]; exact hF _ h1))).trans (h2 j u hu)⟩⟩
theorem BytesAt.more {w : World} {S S' : Nat → Prop} {A : Option Addr} {c : Nat} {l : List (BitVec 8)} (h : BytesAt w S A c l) (hS : ∀ k, S k → S' k) : BytesAt w S' A c l :=
  ⟨h.1, h.2.1, fun hn => by
    obtain ⟨ad, e, h1, h2⟩ := h.2.2 hn
    exact ⟨ad, e, hS _ h1, h2⟩⟩
theorem BytesAt.take {w : World} {S : Nat → Prop} {A : Option Addr} {c : Nat} {l : List (BitVec 8)} (h : BytesAt w S A c l) (k : Nat) : BytesAt w S A c (l.take k) :=
  ⟨Nat.le_trans (by rw [List.length_take]; omega) h.1, h.2.1, fun hn => by
    rw [List.length_take] at hn
    obtain ⟨ad, e, h1, h2⟩ := h.2.2 (by omega)
    refine ⟨ad, e, h1, fun j u hu => h2 j u ?_⟩
    rw [u8s_take] at hu
    rw [← hu, List.getElem?_take_of_lt (by
      have := (List.getElem?_eq_some_iff.1 hu).1
      rw [List.length_take] at this; omega)]⟩
theorem BytesAt.nil_ (w : World) (S : Nat → Prop) : BytesAt w S none 0 [] := ⟨Nat.le_refl _, Nat.zero_le _, fun h => absurd h (by simp)⟩
/-- Bytes of a call's own row. -/
theorem BytesAt.own {w : World} {S : Nat → Prop} {base : Nat} {A : Option Addr} {c : Nat} {l : List (BitVec 8)} (h : w.ownsRow base 5 1 (.slice A l.length c) l.length (u8s l)) (hS : ∀ k, (Value.slice A l.length c).ownBlock = some k → S k) : BytesAt w S A c l := by
  obtain ⟨A', c', e, h1, h2, hr⟩ := own_slice h
  injection e with e1 e2 e3
  subst e1 e3
  refine ⟨h1, h2, fun hn => ?_⟩
  obtain ⟨g, cap, e, hg⟩ := h.form hn
  obtain ⟨ad, e2, h4, h5⟩ := hr.2 hn
  subst e2
  injection e with e3 e4 e5
  injection e3 with e3
  subst e3
  exact ⟨_, rfl, hS _ (by simp [Value.ownBlock]), h5⟩
theorem add_one_addr (a : Addr) : a.add 1 = ⟨a.block, a.off + 1, none⟩ := by unfold Addr.add; split <;> simp_all
theorem add_two_addr (a : Addr) : a.add 2 = ⟨a.block, a.off + 2, none⟩ := by unfold Addr.add; split <;> simp_all
/-- These blocks are made of cells. -/
def CellsIn (w : World) (S : Nat → Prop) : Prop := ∀ k, S k → ∃ ob, w.heap[k]? = some ob ∧ ob.isCells = true
theorem CellsIn.lt {w : World} {S : Nat → Prop} (h : CellsIn w S) : ∀ k, S k → k < w.heap.size := fun k hk => by
  obtain ⟨ob, h1, _⟩ := h k hk
  exact (Array.getElem?_eq_some_iff.1 h1).1
theorem CellsIn.chg {w w' : World} {S F : Nat → Prop} (h : CellsIn w S) (hc : Chg F w w') (hF : ∀ k, S k → ¬ F k) : CellsIn w' S := fun k hk => by
  obtain ⟨ob, h1, h2⟩ := h k hk
  exact ⟨ob, (hc.block k (h.lt k hk) (hF k hk)).trans h1, h2⟩
theorem CellsIn.below {w w' : World} {S : Nat → Prop} (h : CellsIn w S) (hb : Below w.heap.size w w') : CellsIn w' S := h.chg (F := fun _ => False) (Chg.of_below hb) (fun _ _ h => h)
theorem own_cells {w : World} {base n size : Nat} {e : TypeId} {v : Value} {xs : List Value} (h : w.ownsRow base e size v n xs) : CellsIn w (fun k => v.ownBlock = some k) := fun k hk => cellOb_row e size v n xs w (own_base h (fun _ _ => Nat.zero_le _)) k hk
theorem CellsIn.or {w : World} {S T : Nat → Prop} (h : CellsIn w S) (k : CellsIn w T) : CellsIn w (fun q => S q ∨ T q) := fun q hq => hq.elim (h q) (k q)
/-- The document's disk: block d; everything else lies in the blocks S, which are not written any more. -/
structure IsR (w : World) (S : Nat → Prop) (d n : Nat) (D : Nat → SlotD) : Prop where
  row : ∃ A c bs, Blk w d 85 #[.slice A n c] ∧ w.ownsRow 0 87 3 (.slice A n c) n (rrow D bs n) ∧ (∀ k, (Value.slice A n c).ownBlock = some k → S k) ∧ ∀ i, i < n → BytesAt w S (bs i).1 (bs i).2 (D i).bytes
  nd : ¬ S d
  cel : CellsIn w S
  nums : ∀ i, i < n → (D i).dur ≤ (D i).bytes.length ∧ (D i).bytes.length ≤ (D i).size ∧ 1 ≤ (D i).size ∧ (D i).size ≤ 8192
section
variable {w w' w1 : World} {S S' : Nat → Prop} {d n : Nat} {D : Nat → SlotD}
theorem IsR.lt (h : IsR w S d n D) : ∀ k, S k → k < w.heap.size := h.cel.lt
theorem IsR.blk_lt (h : IsR w S d n D) : d < w.heap.size := by
  obtain ⟨⟨A, c, bs, h1, _⟩, _⟩ := h
  exact h1.lt
theorem IsR.chg {F : Nat → Prop} (h : IsR w S d n D) (hc : Chg F w w') (hd : ¬ F d) (hS : ∀ k, S k → ¬ F k) : IsR w' S d n D := by
  obtain ⟨⟨A, c, bs, h1, h2, h3, h4⟩, h5, h6, h7⟩ := h
  exact ⟨⟨A, c, bs, h1.chg hc hd, own_chg h2 hc (fun k hk => hS k (h3 k hk)), h3, fun i hi => (h4 i hi).chg h6.lt hc hS⟩, h5, h6.chg hc hS, h7⟩
theorem IsR.below (h : IsR w S d n D) (hb : Below w.heap.size w w') : IsR w' S d n D := h.chg (F := fun _ => False) (Chg.of_below hb) (fun h => h) (fun _ _ h => h)
theorem IsR.more (h : IsR w S d n D) (hS : ∀ k, S k → S' k) (hd : ¬ S' d) (hl : CellsIn w S') : IsR w S' d n D := by
  obtain ⟨⟨A, c, bs, h1, h2, h3, h4⟩, h5, h6, h7⟩ := h
  exact ⟨⟨A, c, bs, h1, h2, fun k hk => hS k (h3 k hk), fun i hi => (h4 i hi).more hS⟩, hd, hl, h7⟩
theorem IsR.congr {D' : Nat → SlotD} (h : IsR w S d n D) (hD : ∀ i, i < n → D' i = D i) : IsR w S d n D' := by
  obtain ⟨⟨A, c, bs, h1, h2, h3, h4⟩, h5, h6, h7⟩ := h
  have e : rrow D' bs n = rrow D bs n := by
    unfold rrow
    apply List.map_congr_left
    intro q hq
    have : q / 3 < n := by have := List.mem_range.1 hq; omega
    unfold rcell
    rw [hD _ this]
  exact ⟨⟨A, c, bs, h1, by rw [e]; exact h2, h3, fun i hi => by rw [hD i hi]; exact h4 i hi⟩, h5, h6, fun i hi => by rw [hD i hi]; exact h7 i hi⟩
/-- What the walk sees. -/
theorem IsR.cells (h : IsR w S d n D) : ∃ A c, w.cell? ⟨d, 0, none⟩ = some (.slice A n c) ∧ w.frozen? ⟨d, 0, none⟩ = false ∧ n ≤ c ∧ c ≤ maxLen ∧
    ∀ i, i < n → ∃ ad B cb, A = some ad ∧ w.cell? (ad.add (i * 3)) = some (.int .i64 ((D i).size : Int)) ∧ w.cell? ⟨(ad.add (i * 3)).block, (ad.add (i * 3)).off + 1, none⟩ = some (.slice B (D i).bytes.length cb) ∧ w.cell? ⟨(ad.add (i * 3)).block, (ad.add (i * 3)).off + 2, none⟩ = some (.int .i64 ((D i).dur : Int)) ∧ BytesAt w S B cb (D i).bytes := by
  obtain ⟨⟨A, c, bs, h1, h2, h3, h4⟩, h5, h6, h7⟩ := h
  obtain ⟨A', c', e, k1, k2, kr⟩ := own_slice h2
  injection e with e1 e2 e3
  subst e1 e3
  refine ⟨A, c, h1.cell 0, h1.frozen 0, k1, k2, fun i hi => ?_⟩
  obtain ⟨ad, e, _, hc⟩ := kr.2 (by omega)
  have a0 := hc (i * 3) _ (rrow_at (by omega))
  have a1 := hc (i * 3 + 1) _ (rrow_at (by omega))
  have a2 := hc (i * 3 + 2) _ (rrow_at (by omega))
  rw [rcell_0] at a0
  rw [rcell_1] at a1
  rw [rcell_2] at a2
  rw [← add_of_add, add_one_addr] at a1
  rw [← add_of_add, add_two_addr] at a2
  exact ⟨ad, _, _, e, a0, a1, a2, h4 i hi⟩
/-- The document's disk has turned. -/
def RTo (w w' : World) (S : Nat → Prop) (d n : Nat) (D' : Nat → SlotD) : Prop :=
  ∃ S', IsR w' S' d n D' ∧ (∀ k, S k → S' k) ∧ (∀ k, S' k → S k ∨ w.heap.size ≤ k) ∧ Chg (fun k => k = d) w w'
theorem RTo.before (h : RTo w1 w' S d n D) (hb : Below w.heap.size w w1) : RTo w w' S d n D := by
  obtain ⟨S', h1, h2, h3, h4⟩ := h
  have := hb.size
  exact ⟨S', h1, h2, fun k hk => (h3 k hk).imp id (fun e => by omega), (Chg.of_below (F := fun k => k = d) hb).trans h4 (fun _ _ h => h)⟩
end
/-- One or two of the document's disks, which may share bytes. -/
def refsOb (S : Nat → Prop) (n : Nat) (l : List (Nat × (Nat → SlotD))) : Ob where
  P w := (∀ p, p ∈ l → IsR w S p.1 n p.2) ∧ l.Pairwise (fun (p q : Nat × (Nat → SlotD)) => p.1 ≠ q.1) ∧ CellsIn w S
  F k := S k ∨ ∃ p, p ∈ l ∧ p.1 = k
  keep hc hF h := ⟨fun p hp => (h.1 p hp).chg hc (hF _ (.inr ⟨p, hp, rfl⟩)) (fun k hk => hF _ (.inl hk)), h.2.1, h.2.2.chg hc (fun k hk => hF _ (.inl hk))⟩
  lt h k hk := by
    rcases hk with hk | ⟨p, hp, rfl⟩
    · exact h.2.2.lt k hk
    · exact (h.1 p hp).blk_lt
theorem cellOb_refs (S : Nat → Prop) (n : Nat) (l : List (Nat × (Nat → SlotD))) : CellOb (refsOb S n l) := fun w h k hk => by
  have h' : (∀ p, p ∈ l → IsR w S p.1 n p.2) ∧ l.Pairwise (fun (p q : Nat × (Nat → SlotD)) => p.1 ≠ q.1) ∧ CellsIn w S := h
  rcases hk with hk | ⟨p, hp, rfl⟩
  · exact h'.2.2 k hk
  · obtain ⟨A, c, bs, h1, _⟩ := (h'.1 p hp).row
    exact ⟨_, h1, rfl⟩
end Go.Proofs.Ytelobbigpgfobaa

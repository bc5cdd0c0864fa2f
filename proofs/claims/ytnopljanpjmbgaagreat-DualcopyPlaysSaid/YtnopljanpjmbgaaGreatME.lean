/-
  The document's disk in memory (drumlinref10.Disk): its block, its row of slots, their bytes; what was written once stays; The walks of the document's disk (drumlinref10.Disk): valid, check, set, Slots, Len, Durable, Room; The walks of the document's disk (drumlinref10.Disk): Append, Sync, Erase; The walks of the document's disk (drumlinref10.Disk): Read, Copy, Used, Same; The document's New (drumlinref10); The document's disk's Crash (drumlinref10); The laws' used: the slots that a disk's Used yields, as a list; The document's disk (drumlinref10.Disk): slots that there are not; a disk's Crash and the document's that are refused; The walks of the disk laws' alike and whole: a disk and the document's that hold the same show the same; A disk's methods among other objects of a call's own; A disk's methods and the document's at any slot, among other objects of a call's own.
-/
import Derived.Test.YtnopljanpjmbgaaGreatMC
import Derived.Test.YtnopljanpjmbgaaGreatMA
import Derived.Deep.QuietTactic
import Derived.BigQuiet
import Derived.Test.YtnopljanpjmbgaaGreatMD
import Derived.Deep.RegionLaw
import Derived.Deep.RegionHeld3
import Derived.StillTailTactics
namespace Go.Proofs.YtnopljanpjmbgaaGreat
open Go.RowKit
set_option linter.unusedVariables false
/-- Where each slot's bytes lie: address and capacity. -/
abbrev Bts := Nat → Option Addr × Nat
def rcell (D : Nat → SlotD) (bs : Bts) (q : Nat) : Value :=
  if q % 3 = 0 then .int .i64 ((D (q / 3)).size : Int) else if q % 3 = 1 then .slice (bs (q / 3)).1 (D (q / 3)).bytes.length (bs (q / 3)).2 else .int .i64 ((D (q / 3)).dur : Int)
theorem rcell_0 (D : Nat → SlotD) (bs : Bts) (i : Nat) : rcell D bs (i * 3) = .int .i64 ((D i).size : Int) := by
  unfold rcell
  rw [if_pos (by omega), show i * 3 / 3 = i by omega]
theorem rcell_1 (D : Nat → SlotD) (bs : Bts) (i : Nat) : rcell D bs (i * 3 + 1) = .slice (bs i).1 (D i).bytes.length (bs i).2 := by
  unfold rcell
  rw [if_neg (by omega), if_pos (by omega), show (i * 3 + 1) / 3 = i by omega]
theorem rcell_2 (D : Nat → SlotD) (bs : Bts) (i : Nat) : rcell D bs (i * 3 + 2) = .int .i64 ((D i).dur : Int) := by
  unfold rcell
  rw [if_neg (by omega), if_neg (by omega), show (i * 3 + 2) / 3 = i by omega]
theorem rcell_upd (D : Nat → SlotD) (bs : Bts) (i : Nat) (x : SlotD) (b : Option Addr × Nat) {q : Nat} (h : q / 3 ≠ i) : rcell (updF D i x) (updF bs i b) q = rcell D bs q := by
  unfold rcell
  rw [updF_other _ _ h, updF_other _ _ h]
def rrow (D : Nat → SlotD) (bs : Bts) (n : Nat) : List Value := (List.range (n * 3)).map (rcell D bs)
theorem rrow_length (D : Nat → SlotD) (bs : Bts) (n : Nat) : (rrow D bs n).length = n * 3 := by simp [rrow]
theorem rrow_at {D : Nat → SlotD} {bs : Bts} {n q : Nat} (h : q < n * 3) : (rrow D bs n)[q]? = some (rcell D bs q) := by simp [rrow, h]
theorem rrow_one (D : Nat → SlotD) (bs : Bts) (n : Nat) : ∀ u ∈ rrow D bs n, u.oneCell' = true := by
  intro u hu
  simp only [rrow, List.mem_map] at hu
  obtain ⟨q, _, rfl⟩ := hu
  unfold rcell
  split
  · rfl
  · split <;> rfl
theorem rrow_snoc (D : Nat → SlotD) (bs : Bts) (n : Nat) : rrow D bs n ++ [.int .i64 ((D n).size : Int), .slice (bs n).1 (D n).bytes.length (bs n).2, .int .i64 ((D n).dur : Int)] = rrow D bs (n + 1) := by
  unfold rrow
  rw [show (n + 1) * 3 = n * 3 + 1 + 1 + 1 by omega]
  simp only [List.range_succ, List.map_append, List.map_cons, List.map_nil, List.append_assoc, List.cons_append, List.nil_append]
  rw [rcell_0, rcell_1, rcell_2]
theorem rrow_set (D : Nat → SlotD) (bs : Bts) {n i : Nat} (h : i < n) (x : SlotD) (b : Option Addr × Nat) :
    (((rrow D bs n).set (i * 3) (.int .i64 (x.size : Int))).set (i * 3 + 1) (.slice b.1 x.bytes.length b.2)).set (i * 3 + 2) (.int .i64 (x.dur : Int)) = rrow (updF D i x) (updF bs i b) n := by
  apply List.ext_getElem?
  intro q
  by_cases hq : q < n * 3
  · rw [rrow_at hq]
    by_cases h2 : q = i * 3 + 2
    · subst h2
      rw [List.getElem?_set_self (by simpa [rrow_length] using hq), rcell_2, updF_same]
    rw [List.getElem?_set_ne (by omega)]
    by_cases h1 : q = i * 3 + 1
    · subst h1
      rw [List.getElem?_set_self (by simpa [rrow_length] using hq), rcell_1, updF_same, updF_same]
    rw [List.getElem?_set_ne (by omega)]
    by_cases h0 : q = i * 3
    · subst h0
      rw [List.getElem?_set_self (by simpa [rrow_length] using hq), rcell_0, updF_same]
    rw [List.getElem?_set_ne (by omega), rrow_at hq, rcell_upd _ _ _ _ _ (by omega)]
  · rw [List.getElem?_eq_none (by simp [rrow_length]; omega), List.getElem?_eq_none (by rw [rrow_length]; omega)]
/-- Bytes that lie in the blocks S. -/
def BytesAt (w : World) (S : Nat → Prop) (A : Option Addr) (c : Nat) (l : List (BitVec 8)) : Prop :=
  l.length ≤ c ∧ c ≤ maxLen ∧ (0 < l.length → ∃ ad, A = some ad ∧ S ad.block ∧ ∀ j u, (u8s l)[j]? = some u → w.cell? (ad.add j) = some u)
theorem BytesAt.reads {w : World} {S : Nat → Prop} {A : Option Addr} {c : Nat} {l : List (BitVec 8)} (h : BytesAt w S A c l) (hS : ∀ k, S k → k < w.heap.size) : Reads w w.heap.size 1 A l.length (u8s l) :=
  ⟨by rw [u8s_length]; omega, fun hn => by
    obtain ⟨ad, e, h1, h2⟩ := h.2.2 hn
    exact ⟨ad, e, hS _ h1, h2⟩⟩
theorem BytesAt.chg {F : Nat → Prop} {w w' : World} {S : Nat → Prop} {A : Option Addr} {c : Nat} {l : List (BitVec 8)} (h : BytesAt w S A c l) (hS : ∀ k, S k → k < w.heap.size) (hc : Chg F w w') (hF : ∀ k, S k → ¬ F k) : BytesAt w' S A c l :=
  ⟨h.1, h.2.1, fun hn => by
    obtain ⟨ad, e, h1, h2⟩ := h.2.2 hn
    exact ⟨ad, e, h1, fun j u hu => (World.cell?_of_block (hc.block (ad.add j).block (by rw [block_of_add]; exact hS _ h1) (by rw [block_of_add]; exact hF _ h1))).trans (h2 j u hu)⟩⟩
theorem BytesAt.more {w : World} {S S' : Nat → Prop} {A : Option Addr} {c : Nat} {l : List (BitVec 8)} (h : BytesAt w S A c l) (hS : ∀ k, S k → S' k) : BytesAt w S' A c l :=
  ⟨h.1, h.2.1, fun hn => by
    obtain ⟨ad, e, h1, h2⟩ := h.2.2 hn
    exact ⟨ad, e, hS _ h1, h2⟩⟩
theorem BytesAt.take {w : World} {S : Nat → Prop} {A : Option Addr} {c : Nat} {l : List (BitVec 8)} (h : BytesAt w S A c l) (k : Nat) : BytesAt w S A c (l.take k) :=
  ⟨Nat.le_trans (by rw [List.length_take]; omega) h.1, h.2.1, fun hn => by
    rw [List.length_take] at hn
    obtain ⟨ad, e, h1, h2⟩ := h.2.2 (by omega)
    refine ⟨ad, e, h1, fun j u hu => h2 j u ?_⟩
    rw [u8s_take] at hu
    rw [← hu, List.getElem?_take_of_lt (by
      have := (List.getElem?_eq_some_iff.1 hu).1
      rw [List.length_take] at this; omega)]⟩
theorem BytesAt.nil_ (w : World) (S : Nat → Prop) : BytesAt w S none 0 [] := ⟨Nat.le_refl _, Nat.zero_le _, fun h => absurd h (by simp)⟩
/-- Bytes of a call's own row. -/
theorem BytesAt.own {w : World} {S : Nat → Prop} {base : Nat} {A : Option Addr} {c : Nat} {l : List (BitVec 8)} (h : w.ownsRow base 5 1 (.slice A l.length c) l.length (u8s l)) (hS : ∀ k, (Value.slice A l.length c).ownBlock = some k → S k) : BytesAt w S A c l := by
  obtain ⟨A', c', e, h1, h2, hr⟩ := own_slice h
  injection e with e1 e2 e3
  subst e1 e3
  refine ⟨h1, h2, fun hn => ?_⟩
  obtain ⟨g, cap, e, hg⟩ := h.form hn
  obtain ⟨ad, e2, h4, h5⟩ := hr.2 hn
  subst e2
  injection e with e3 e4 e5
  injection e3 with e3
  subst e3
  exact ⟨_, rfl, hS _ (by simp [Value.ownBlock]), h5⟩
theorem add_one_addr (a : Addr) : a.add 1 = ⟨a.block, a.off + 1, none⟩ := by unfold Addr.add; split <;> simp_all
theorem add_two_addr (a : Addr) : a.add 2 = ⟨a.block, a.off + 2, none⟩ := by unfold Addr.add; split <;> simp_all
/-- These blocks are made of cells. -/
def CellsIn (w : World) (S : Nat → Prop) : Prop := ∀ k, S k → ∃ ob, w.heap[k]? = some ob ∧ ob.isCells = true
theorem CellsIn.lt {w : World} {S : Nat → Prop} (h : CellsIn w S) : ∀ k, S k → k < w.heap.size := fun k hk => by
  obtain ⟨ob, h1, _⟩ := h k hk
  exact (Array.getElem?_eq_some_iff.1 h1).1
theorem CellsIn.chg {w w' : World} {S F : Nat → Prop} (h : CellsIn w S) (hc : Chg F w w') (hF : ∀ k, S k → ¬ F k) : CellsIn w' S := fun k hk => by
  obtain ⟨ob, h1, h2⟩ := h k hk
  exact ⟨ob, (hc.block k (h.lt k hk) (hF k hk)).trans h1, h2⟩
theorem CellsIn.below {w w' : World} {S : Nat → Prop} (h : CellsIn w S) (hb : Below w.heap.size w w') : CellsIn w' S := h.chg (F := fun _ => False) (Chg.of_below hb) (fun _ _ h => h)
theorem own_cells {w : World} {base n size : Nat} {e : TypeId} {v : Value} {xs : List Value} (h : w.ownsRow base e size v n xs) : CellsIn w (fun k => v.ownBlock = some k) := fun k hk => cellOb_row e size v n xs w (own_base h (fun _ _ => Nat.zero_le _)) k hk
theorem CellsIn.or {w : World} {S T : Nat → Prop} (h : CellsIn w S) (k : CellsIn w T) : CellsIn w (fun q => S q ∨ T q) := fun q hq => hq.elim (h q) (k q)
/-- The document's disk: block d; everything else lies in the blocks S, which are not written any more. -/
structure IsR (w : World) (S : Nat → Prop) (d n : Nat) (D : Nat → SlotD) : Prop where
  row : ∃ A c bs, Blk w d 143 #[.slice A n c] ∧ w.ownsRow 0 145 3 (.slice A n c) n (rrow D bs n) ∧ (∀ k, (Value.slice A n c).ownBlock = some k → S k) ∧ ∀ i, i < n → BytesAt w S (bs i).1 (bs i).2 (D i).bytes
  nd : ¬ S d
  cel : CellsIn w S
  nums : ∀ i, i < n → (D i).dur ≤ (D i).bytes.length ∧ (D i).bytes.length ≤ (D i).size ∧ 1 ≤ (D i).size ∧ (D i).size ≤ 8192
section
variable {w w' w1 : World} {S S' : Nat → Prop} {d n : Nat} {D : Nat → SlotD}
theorem IsR.lt (h : IsR w S d n D) : ∀ k, S k → k < w.heap.size := h.cel.lt
theorem IsR.blk_lt (h : IsR w S d n D) : d < w.heap.size := by
  obtain ⟨⟨A, c, bs, h1, _⟩, _⟩ := h
  exact h1.lt
theorem IsR.chg {F : Nat → Prop} (h : IsR w S d n D) (hc : Chg F w w') (hd : ¬ F d) (hS : ∀ k, S k → ¬ F k) : IsR w' S d n D := by
  obtain ⟨⟨A, c, bs, h1, h2, h3, h4⟩, h5, h6, h7⟩ := h
  exact ⟨⟨A, c, bs, h1.chg hc hd, own_chg h2 hc (fun k hk => hS k (h3 k hk)), h3, fun i hi => (h4 i hi).chg h6.lt hc hS⟩, h5, h6.chg hc hS, h7⟩
theorem IsR.below (h : IsR w S d n D) (hb : Below w.heap.size w w') : IsR w' S d n D := h.chg (F := fun _ => False) (Chg.of_below hb) (fun h => h) (fun _ _ h => h)
theorem IsR.more (h : IsR w S d n D) (hS : ∀ k, S k → S' k) (hd : ¬ S' d) (hl : CellsIn w S') : IsR w S' d n D := by
  obtain ⟨⟨A, c, bs, h1, h2, h3, h4⟩, h5, h6, h7⟩ := h
  exact ⟨⟨A, c, bs, h1, h2, fun k hk => hS k (h3 k hk), fun i hi => (h4 i hi).more hS⟩, hd, hl, h7⟩
theorem IsR.congr {D' : Nat → SlotD} (h : IsR w S d n D) (hD : ∀ i, i < n → D' i = D i) : IsR w S d n D' := by
  obtain ⟨⟨A, c, bs, h1, h2, h3, h4⟩, h5, h6, h7⟩ := h
  have e : rrow D' bs n = rrow D bs n := by
    unfold rrow
    apply List.map_congr_left
    intro q hq
    have : q / 3 < n := by have := List.mem_range.1 hq; omega
    unfold rcell
    rw [hD _ this]
  exact ⟨⟨A, c, bs, h1, by rw [e]; exact h2, h3, fun i hi => by rw [hD i hi]; exact h4 i hi⟩, h5, h6, fun i hi => by rw [hD i hi]; exact h7 i hi⟩
/-- What the walk sees. -/
theorem IsR.cells (h : IsR w S d n D) : ∃ A c, w.cell? ⟨d, 0, none⟩ = some (.slice A n c) ∧ w.frozen? ⟨d, 0, none⟩ = false ∧ n ≤ c ∧ c ≤ maxLen ∧
    ∀ i, i < n → ∃ ad B cb, A = some ad ∧ w.cell? (ad.add (i * 3)) = some (.int .i64 ((D i).size : Int)) ∧ w.cell? ⟨(ad.add (i * 3)).block, (ad.add (i * 3)).off + 1, none⟩ = some (.slice B (D i).bytes.length cb) ∧ w.cell? ⟨(ad.add (i * 3)).block, (ad.add (i * 3)).off + 2, none⟩ = some (.int .i64 ((D i).dur : Int)) ∧ BytesAt w S B cb (D i).bytes := by
  obtain ⟨⟨A, c, bs, h1, h2, h3, h4⟩, h5, h6, h7⟩ := h
  obtain ⟨A', c', e, k1, k2, kr⟩ := own_slice h2
  injection e with e1 e2 e3
  subst e1 e3
  refine ⟨A, c, h1.cell 0, h1.frozen 0, k1, k2, fun i hi => ?_⟩
  obtain ⟨ad, e, _, hc⟩ := kr.2 (by omega)
  have a0 := hc (i * 3) _ (rrow_at (by omega))
  have a1 := hc (i * 3 + 1) _ (rrow_at (by omega))
  have a2 := hc (i * 3 + 2) _ (rrow_at (by omega))
  rw [rcell_0] at a0
  rw [rcell_1] at a1
  rw [rcell_2] at a2
  rw [← add_of_add, add_one_addr] at a1
  rw [← add_of_add, add_two_addr] at a2
  exact ⟨ad, _, _, e, a0, a1, a2, h4 i hi⟩
/-- The document's disk has turned. -/
def RTo (w w' : World) (S : Nat → Prop) (d n : Nat) (D' : Nat → SlotD) : Prop :=
  ∃ S', IsR w' S' d n D' ∧ (∀ k, S k → S' k) ∧ (∀ k, S' k → S k ∨ w.heap.size ≤ k) ∧ Chg (fun k => k = d) w w'
theorem RTo.before (h : RTo w1 w' S d n D) (hb : Below w.heap.size w w1) : RTo w w' S d n D := by
  obtain ⟨S', h1, h2, h3, h4⟩ := h
  have := hb.size
  exact ⟨S', h1, h2, fun k hk => (h3 k hk).imp id (fun e => by omega), (Chg.of_below (F := fun k => k = d) hb).trans h4 (fun _ _ h => h)⟩
end
/-- One or two of the document's disks, which may share bytes. -/
def refsOb (S : Nat → Prop) (n : Nat) (l : List (Nat × (Nat → SlotD))) : Ob where
  P w := (∀ p, p ∈ l → IsR w S p.1 n p.2) ∧ l.Pairwise (fun (p q : Nat × (Nat → SlotD)) => p.1 ≠ q.1) ∧ CellsIn w S
  F k := S k ∨ ∃ p, p ∈ l ∧ p.1 = k
  keep hc hF h := ⟨fun p hp => (h.1 p hp).chg hc (hF _ (.inr ⟨p, hp, rfl⟩)) (fun k hk => hF _ (.inl hk)), h.2.1, h.2.2.chg hc (fun k hk => hF _ (.inl hk))⟩
  lt h k hk := by
    rcases hk with hk | ⟨p, hp, rfl⟩
    · exact h.2.2.lt k hk
    · exact (h.1 p hp).blk_lt
theorem cellOb_refs (S : Nat → Prop) (n : Nat) (l : List (Nat × (Nat → SlotD))) : CellOb (refsOb S n l) := fun w h k hk => by
  have h' : (∀ p, p ∈ l → IsR w S p.1 n p.2) ∧ l.Pairwise (fun (p q : Nat × (Nat → SlotD)) => p.1 ≠ q.1) ∧ CellsIn w S := h
  rcases hk with hk | ⟨p, hp, rfl⟩
  · exact h'.2.2 k hk
  · obtain ⟨A, c, bs, h1, _⟩ := (h'.1 p hp).row
    exact ⟨_, h1, rfl⟩
end Go.Proofs.YtnopljanpjmbgaaGreat
namespace Go.Proofs.YtnopljanpjmbgaaGreat
open Go.RowKit
set_option linter.unusedVariables false
section
variable {w w' w1 : World} {S S' : Nat → Prop} {d n : Nat} {D : Nat → SlotD}
set_option maxRecDepth 100000 in
set_option maxHeartbeats 400000 in
theorem rvalid (h : IsR w S d n D) (hn : 0 < n) :
    Calls Tryz.prog 142 #[.pointer (some ⟨d, 0, none⟩)] w fun e w' => e = .returned (.bool true) ∧ w = w' := by
  obtain ⟨A, c, q0, _, _, hm, _⟩ := h.cells
  unfold maxLen at hm
  clear h
  go_enter Tryz.func142, Tryz.ntmps142
  go_wp2_with fail
  go_ret
  exact ⟨rfl, rfl⟩
set_option maxRecDepth 100000 in
set_option maxHeartbeats 400000 in
theorem rcheck (h : IsR w S d n D) (hn : 0 < n) (i : Nat) (hi : i < n) :
    Calls Tryz.prog 114 #[.pointer (some ⟨d, 0, none⟩), .int .i64 (i : Int)] w fun e w' => e = .returned (.int .i64 0) ∧ w = w' := by
  obtain ⟨A, c, q0, _, _, hm, _⟩ := h.cells
  have HV := Lib.hid (rvalid h hn)
  unfold maxLen at hm
  clear h
  go_enter Tryz.func114, Tryz.ntmps114
  go_wp2_with fail
  refine HV.out.mono ?_
  rintro e w' ⟨rfl, rfl⟩
  go_wp2_with fail
  go_ret
  exact ⟨rfl, rfl⟩
set_option maxRecDepth 100000 in
set_option maxHeartbeats 400000 in
theorem rcheck_range (h : IsR w S d n D) (hn : 0 < n) (i : Int) (hi : i < 0 ∨ (n : Int) ≤ i) :
    Calls Tryz.prog 114 #[.pointer (some ⟨d, 0, none⟩), .int .i64 i] w fun e w' => e = .returned (.int .i64 3) ∧ w = w' := by
  obtain ⟨A, c, q0, _, _, hm, _⟩ := h.cells
  have HV := Lib.hid (rvalid h hn)
  unfold maxLen at hm
  clear h
  by_cases h0 : i < 0
  · clear hi
    go_enter Tryz.func114, Tryz.ntmps114
    go_wp2_with fail
    refine HV.out.mono ?_
    rintro e w' ⟨rfl, rfl⟩
    go_wp2_with fail
    go_ret
    exact ⟨rfl, rfl⟩
  · have h1 : (n : Int) ≤ i := by omega
    clear hi
    go_enter Tryz.func114, Tryz.ntmps114
    go_wp2_with fail
    refine HV.out.mono ?_
    rintro e w' ⟨rfl, rfl⟩
    go_wp2_with fail
    go_ret
    exact ⟨rfl, rfl⟩
set_option maxRecDepth 100000 in
set_option maxHeartbeats 400000 in
theorem rlen (h : IsR w S d n D) (hn : 0 < n) (i : Nat) (hi : i < n) :
    Calls Tryz.prog 105 #[.pointer (some ⟨d, 0, none⟩), .int .i64 (i : Int)] w fun e w' => e = .returned (.tuple #[.int .i64 ((D i).bytes.length : Int), .int .i64 0]) ∧ w = w' := by
  obtain ⟨A, c, q0, _, hnc, hm, hc⟩ := h.cells
  obtain ⟨ad, B, cb, rfl, a0, a1, a2, hb⟩ := hc i hi
  have HV := Lib.hid (rcheck h hn i hi)
  have hb2 := hb.2.1
  have hb1 := hb.1
  unfold maxLen at hm hb2
  clear h hc hb
  go_enter Tryz.func105, Tryz.ntmps105
  go_wp2_with fail
  refine HV.out.mono ?_
  rintro e w' ⟨rfl, rfl⟩
  go_wp2_with fail
  go_ret2
  exact ⟨rfl, rfl⟩
theorem slot_info : (Tryz.prog.info? 145).map (fun i => (i.zero, i.size, i.bytes)) = some (some (.agg #[.int .i64 0, .slice none 0 0, .int .i64 0]), 3, 40) := by kernel_rfl
theorem made0b (w : World) : (w.alloc (.cells #[] 5)).ownsRow w.heap.size 5 1 (.slice (some ⟨w.heap.size, 0, none⟩) 0 0) 0 [] := World.ownsRow_made w #[] 0 (Nat.le_refl _) (by unfold maxLen; omega) (by simp)
theorem made0s (w : World) : (w.alloc (.cells #[] 145)).ownsRow w.heap.size 145 3 (.slice (some ⟨w.heap.size, 0, none⟩) 0 0) 0 [] := World.ownsRow_made w #[] 0 (Nat.le_refl _) (by unfold maxLen; omega) (by simp)
set_option maxRecDepth 100000 in
set_option maxHeartbeats 1000000 in
theorem rset (h : IsR w S d n D) (hn : 0 < n) (hm34 : n ≤ 65536) (i : Nat) (hi : i < n) (x : SlotD) (B : Option Addr) (cb : Nat) (hb : BytesAt w S B cb x.bytes) (hx : x.dur ≤ x.bytes.length ∧ x.bytes.length ≤ x.size ∧ 1 ≤ x.size ∧ x.size ≤ 8192) :
    Calls Tryz.prog 115 #[.pointer (some ⟨d, 0, none⟩), .int .i64 (i : Int), .agg #[.int .i64 (x.size : Int), .slice B x.bytes.length cb, .int .i64 (x.dur : Int)]] w fun e w' => e = .returned (.tuple #[]) ∧ RTo w w' S d n (updF D i x) := by
  obtain ⟨i0, hi0, hz0, hz1, hz2⟩ := info_parts slot_info
  obtain ⟨⟨A, c, bs, h1, h2, h3, h4⟩, h5, h6, h7⟩ := h
  obtain ⟨A', c', e, k1, k2, kr⟩ := own_slice h2
  injection e with e1 e2 e3
  subst e1 e3
  clear e2
  obtain ⟨ad, rfl, _⟩ := kr.2 hn
  have q0 : w.cell? ⟨d, 0, none⟩ = some (.slice (some ad) n c) := h1.cell 0
  have f0 : w.frozen? ⟨d, 0, none⟩ = false := h1.frozen 0
  have hdl := h1.lt
  have H1 := Lib.hid h1
  have HR := Lib.hid kr
  have H3 := Lib.hid h3
  have H4 := Lib.hid h4
  have HB := Lib.hid hb
  have H7 := Lib.hid h7
  have HX := Lib.hid hx
  have H6 := Lib.hid h6
  have H5 := Lib.hid h5
  unfold maxLen at k2
  clear h1 h2 h3 h4 h5 h6 h7 kr hx
  have hbl := HB.out.1
  have hbc := HB.out.2.1
  unfold maxLen at hbc
  clear hb
  obtain ⟨wa, hwa⟩ : ∃ wa : World, wa = w.alloc (.cells #[.int .i64 (x.size : Int), .slice B x.bytes.length cb, .int .i64 (x.dur : Int)] 145) := ⟨_, rfl⟩
  have hwas : wa.heap.size = w.heap.size + 1 := by rw [hwa]; simp
  have HB0 : Hid (Below w.heap.size w wa) := by rw [hwa]; exact (Below.refl _ _).alloc (Nat.le_refl _) _
  have HO := Lib.hid (made0s wa)
  have HRA : Hid (Reads (wa.alloc (.cells #[] 145)) w.heap.size 3 (some ad) n (rrow D bs n)) := (HR.out.below HB0.out).alloc (by omega) _
  have HP : Hid (Blk (wa.alloc (.cells #[] 145)) w.heap.size 145 #[.int .i64 (x.size : Int), .slice B x.bytes.length cb, .int .i64 (x.dur : Int)]) := by
    show Blk _ _ _ _
    rw [hwa]
    exact (Blk.new w _ _).alloc _
  have HB1 : Hid (Below w.heap.size w (wa.alloc (.cells #[] 145))) := HB0.out.alloc (by omega) _
  rw [hwa, World.size_alloc] at HO
  rw [hwa] at HRA HP HB1
  clear hwa hwas HB0
  go_enter Tryz.func115, Tryz.ntmps115
  go_wp2_with (at_builtin
               refine wpList_append_any _ rfl (.tmp 7) (.tmp 11) _ rfl (w.heap.size + 1) 145 i0 _ 3 40 Tryz.underlying141 hi0 hz0 hz1 hz2 rfl (by omega) (.slice (some ⟨w.heap.size + 1, 0, none⟩) 0 0) 0 [] rfl
                 HO.out w.heap.size _ n _ (rrow D bs n) rfl HRA.out (rrow_one _ _ _) (by simp only [maxLen]; omega) (by omega) (by simp) ?_
               intro v1 w4 hown1 hg1 hat1
               rw [Nat.zero_add, List.nil_append] at hown1
               have HB4 := Lib.hid (HB1.out.grown hg1 (by simp; omega) (by intro q hq; simp [Value.ownBlock] at hq; omega))
               obtain ⟨g, cap, rfl, hgb, hgl⟩ := hown1.form hn
               have HO1 := Lib.hid hown1
               have hp4 := HP.out.grown hg1 (by simp [Value.ownBlock])
               have p0 : w4.cell? ⟨w.heap.size, 0, none⟩ = some (.int .i64 (x.size : Int)) := hp4.cell 0
               have p1 : w4.cell? ⟨w.heap.size, 1, none⟩ = some (.slice B x.bytes.length cb) := hp4.cell 1
               have p2 : w4.cell? ⟨w.heap.size, 2, none⟩ = some (.int .i64 (x.dur : Int)) := hp4.cell 2
               have sl : ∀ q, q < n * 3 → w4.cell? ⟨g, q, none⟩ = some (rcell D bs q) := fun q hq => by
                 have := hown1.cells (g := g) rfl q _ (rrow_at hq)
                 rwa [add_zero_addr] at this
               have s0 := sl (i * 3) (by omega)
               have s1 := sl (i * 3 + 1) (by omega)
               have s2 := sl (i * 3 + 2) (by omega)
               have z0 : w4.frozen? ⟨g, i * 3, none⟩ = false := hown1.frozenAt _
               have z1 : w4.frozen? ⟨g, i * 3 + 1, none⟩ = false := hown1.frozenAt _
               have z2 : w4.frozen? ⟨g, i * 3 + 2, none⟩ = false := hown1.frozenAt _
               have d0 : w4.cell? ⟨d, 0, none⟩ = some (.slice (some ad) n c) := (HB4.out.cell (p := ⟨d, 0, none⟩) hdl).trans q0
               have d1 : w4.frozen? ⟨d, 0, none⟩ = false := (World.frozen?_of_block (HB4.out.block d hdl)).trans f0
               clear hown1 hg1 hat1 hp4 sl)
  go_end0
  obtain ⟨w5, hw5⟩ : ∃ w5 : World, w5 = ((w4.setCell ⟨g, i * 3, none⟩ (.int .i64 (x.size : Int))).setCell ⟨g, i * 3 + 1, none⟩ (.slice B x.bytes.length cb)).setCell ⟨g, i * 3 + 2, none⟩ (.int .i64 (x.dur : Int)) := ⟨_, rfl⟩
  have hO5 : w5.ownsRow (w.heap.size + 1) 145 3 (.slice (some ⟨g, 0, none⟩) n cap) n (rrow (updF D i x) (updF bs i (B, cb)) n) := by
    rw [hw5, ← rrow_set D bs hi x (B, cb)]
    exact (((HO1.out.stored _ _).1.stored _ _).1.stored _ _).1
  have hB5 : Below w.heap.size w w5 := by
    rw [hw5]
    exact ((HB4.out.setCell (by show w.heap.size ≤ g; omega) _).setCell (by show w.heap.size ≤ g; omega) _).setCell (by show w.heap.size ≤ g; omega) _
  have hs5 : w5.heap.size = w4.heap.size := by rw [hw5]; simp [World.setCell]
  rw [← hw5]
  have hC : Chg (fun k => k = d) w (w5.setCell ⟨d, 0, none⟩ (.slice (some ⟨g, 0, none⟩) n cap)) := (Chg.of_below (F := fun k => k = d) hB5).setCell (p := ⟨d, 0, none⟩) (.inl rfl) _
  have hSd : ∀ k, S k → k ≠ d := fun k hk e => H5.out (by rw [← e]; exact hk)
  have hO6 : (w5.setCell ⟨d, 0, none⟩ (.slice (some ⟨g, 0, none⟩) n cap)).ownsRow 0 145 3 (.slice (some ⟨g, 0, none⟩) n cap) n (rrow (updF D i x) (updF bs i (B, cb)) n) :=
    own_chg (own_base hO5 (fun _ _ => Nat.zero_le _)) ((Chg.refl (fun k => k = d) w5).setCell (p := ⟨d, 0, none⟩) (.inl rfl) _) (fun k hk e => by
      have : g = k := by simpa [Value.ownBlock] using hk
      omega)
  refine ⟨rfl, fun k => S k ∨ k = g, ⟨⟨some ⟨g, 0, none⟩, cap, updF bs i (B, cb), ?_, ?_, fun k hk => ?_, fun j hj => ?_⟩, ?_, fun k hk => ?_, fun j hj => ?_⟩, fun k hk => .inl hk, fun k hk => ?_, hC⟩
  · exact (H1.out.below hB5 hdl).set_ 0 _
  · exact hO6
  · have : g = k := by simpa [Value.ownBlock] using hk
    exact .inr this.symm
  · by_cases e : j = i
    · subst e
      rw [updF_same, updF_same]
      exact (HB.out.chg H6.out.lt hC hSd).more (fun k hk => .inl hk)
    · rw [updF_other _ _ e, updF_other _ _ e]
      exact ((H4.out j hj).chg H6.out.lt hC hSd).more (fun k hk => .inl hk)
  · rintro (h | h)
    · exact H5.out h
    · omega
  · rcases hk with hk | hk
    · exact H6.out.chg hC hSd k hk
    · refine own_cells hO6 k ?_
      rw [hk]
      rfl
  · by_cases e : j = i
    · subst e; rw [updF_same]; exact HX.out
    · rw [updF_other _ _ e]; exact H7.out j hj
  · rcases hk with hk | hk
    · exact .inl hk
    · exact .inr (by omega)
end
end Go.Proofs.YtnopljanpjmbgaaGreat
namespace Go.Proofs.YtnopljanpjmbgaaGreat
open Go.RowKit
set_option linter.unusedVariables false
section
variable {w w' w1 : World} {S S' : Nat → Prop} {d n : Nat} {D : Nat → SlotD}
theorem RTo.refl (h : IsR w S d n D) (hb : Below w.heap.size w w') : RTo w w' S d n D := ⟨S, h.below hb, fun _ h => h, fun _ h => .inl h, Chg.of_below hb⟩
/-- The call before has made blocks of its own, which are read from now on. -/
theorem RTo.grow {S1 : Nat → Prop} (h : RTo w1 w' S1 d n D) (hb : Below w.heap.size w w1) (h1 : ∀ k, S k → S1 k) (h2 : ∀ k, S1 k → S k ∨ w.heap.size ≤ k) : RTo w w' S d n D := by
  obtain ⟨S', k1, k2, k3, k4⟩ := h
  have := hb.size
  exact ⟨S', k1, fun k hk => k2 k (h1 k hk), fun k hk => by
    rcases k3 k hk with e | e
    · exact h2 k e
    · exact .inr (by omega), (Chg.of_below (F := fun k => k = d) hb).trans k4 (fun _ _ h => h)⟩
set_option maxRecDepth 100000 in
set_option maxHeartbeats 1000000 in
theorem rsync (h : IsR w S d n D) (hn : 0 < n) (hm34 : n ≤ 65536) (i : Nat) (hi : i < n) :
    Calls Tryz.prog 113 #[.pointer (some ⟨d, 0, none⟩), .int .i64 (i : Int)] w fun e w' => e = .returned (.int .i64 0) ∧ RTo w w' S d n (syncD D i) := by
  obtain ⟨A, c, q0, _, hnc, hm, hc⟩ := h.cells
  obtain ⟨ad, B, cb, rfl, a0, a1, a2, hb⟩ := hc i hi
  have HV := Lib.hid (rcheck h hn i hi)
  have hnum := h.nums i hi
  have hba : Below w.heap.size w (w.alloc (.cells #[.int .i64 ((D i).size : Int), .slice B (D i).bytes.length cb, .int .i64 ((D i).bytes.length : Int)] 145)) := (Below.refl _ _).alloc (Nat.le_refl _) _
  have HS := Lib.hid (rset (h.below hba) hn hm34 i hi ⟨(D i).size, (D i).bytes, (D i).bytes.length⟩ B cb (hb.chg h.lt (Chg.of_below (F := fun _ => False) hba) (fun _ _ h => h)) ⟨Nat.le_refl _, hnum.2.1, hnum.2.2.1, hnum.2.2.2⟩)
  have HBA := Lib.hid hba
  have hb2 := hb.2.1
  have hb1 := hb.1
  unfold maxLen at hm hb2
  clear h hc hb hnum hba
  go_enter Tryz.func113, Tryz.ntmps113
  go_wp2_with fail
  refine HV.out.mono ?_
  rintro e w' ⟨rfl, rfl⟩
  go_wp2_with fail
  refine HS.out.mono ?_
  rintro e w' ⟨rfl, hq⟩
  have HQ := Lib.hid hq
  clear hq
  go_wp2_with fail
  go_ret
  exact ⟨rfl, HQ.out.before HBA.out⟩
set_option maxRecDepth 100000 in
set_option maxHeartbeats 1000000 in
theorem rerase (h : IsR w S d n D) (hn : 0 < n) (hm34 : n ≤ 65536) (i : Nat) (hi : i < n) :
    Calls Tryz.prog 79 #[.pointer (some ⟨d, 0, none⟩), .int .i64 (i : Int)] w fun e w' => e = .returned (.int .i64 0) ∧ RTo w w' S d n (eraseD D i) := by
  obtain ⟨A, c, q0, _, hnc, hm, hc⟩ := h.cells
  obtain ⟨ad, B, cb, rfl, a0, a1, a2, hb⟩ := hc i hi
  have HV := Lib.hid (rcheck h hn i hi)
  have hnum := h.nums i hi
  have HS := Lib.hid (rset h hn hm34 i hi ⟨(D i).size, [], 0⟩ none 0 (BytesAt.nil_ _ _) ⟨by simp, by simp, hnum.2.2.1, hnum.2.2.2⟩)
  unfold maxLen at hm
  clear h hc hb hnum
  go_enter Tryz.func79, Tryz.ntmps79
  go_wp2_with fail
  refine HV.out.mono ?_
  rintro e w' ⟨rfl, rfl⟩
  go_wp2_with fail
  refine HS.out.mono ?_
  rintro e w' ⟨rfl, hq⟩
  have HQ := Lib.hid hq
  clear hq
  go_wp2_with fail
  go_ret
  exact ⟨rfl, HQ.out⟩
set_option maxRecDepth 100000 in
set_option maxHeartbeats 1000000 in
theorem rappend (h : IsR w S d n D) (hn : 0 < n) (hm34 : n ≤ 65536) (i : Nat) (hi : i < n) (v : Value) (b : List (BitVec 8)) (hv : Holds w v b) (hb64 : b.length ≤ 1000000) :
    Calls Tryz.prog 69 #[.pointer (some ⟨d, 0, none⟩), .int .i64 (i : Int), v] w fun e w' => e = .returned (.int .i64 (appE D i b)) ∧ RTo w w' S d n (appD D i b) := by
  obtain ⟨A, c, q0, _, hnc, hm, hc⟩ := h.cells
  obtain ⟨ad, B, cb, rfl, a0, a1, a2, hb⟩ := hc i hi
  obtain ⟨Av, mv, cv, rfl, hmv, hmc, hcm, hr⟩ := hv
  have HV := Lib.hid (rcheck h hn i hi)
  have H := Lib.hid h
  have HBT := Lib.hid hb
  have HRV := Lib.hid hr
  have hb2 := hb.2.1
  have hb1 := hb.1
  unfold maxLen at hm hb2 hcm
  subst hmv
  obtain ⟨u1, u2, u3, u4⟩ := h.nums i hi
  clear h hc hb hr
  have hdl := H.out.blk_lt
  by_cases hf : (D i).bytes.length + b.length ≤ (D i).size
  · obtain ⟨i0, hi0, hz0, hz1, hz2⟩ := info_parts u8_info
    obtain ⟨wa, hwa⟩ : ∃ wa : World, wa = w.alloc (.cells #[.int .i64 ((D i).size : Int), .slice B (D i).bytes.length cb, .int .i64 ((D i).dur : Int)] 145) := ⟨_, rfl⟩
    have hwas : wa.heap.size = w.heap.size + 1 := by rw [hwa]; simp
    have HO := Lib.hid (made0b wa)
    have HB1 : Hid (Below w.heap.size w (wa.alloc (.cells #[] 5))) := by
      show Below _ _ _
      rw [hwa]
      exact ((Below.refl _ _).alloc (Nat.le_refl _) _).alloc (by simp) _
    have HRB : Hid (Reads (wa.alloc (.cells #[] 5)) w.heap.size 1 B (D i).bytes.length (u8s (D i).bytes)) := (HBT.out.reads H.out.lt).below HB1.out
    have HP : Hid (Blk (wa.alloc (.cells #[] 5)) w.heap.size 145 #[.int .i64 ((D i).size : Int), .slice B (D i).bytes.length cb, .int .i64 ((D i).dur : Int)]) := by
      show Blk _ _ _ _
      rw [hwa]
      exact (Blk.new w _ _).alloc _
    rw [hwas] at HO
    rw [hwa] at HRB HP HB1 HO
    clear hwa hwas
    go_enter Tryz.func69, Tryz.ntmps69
    go_wp2_with fail
    refine HV.out.mono ?_
    rintro e w' ⟨rfl, rfl⟩
    go_wp2_with (first
      | (at_builtin
         refine wpList_append_any _ rfl (.tmp 31) (.tmp 33) _ rfl (w.heap.size + 1) 5 i0 _ 1 1 Tryz.underlying23 hi0 hz0 hz1 hz2 rfl (by omega) (.slice (some ⟨w.heap.size + 1, 0, none⟩) 0 0) 0 [] rfl
           HO.out w.heap.size _ (D i).bytes.length _ (u8s (D i).bytes) rfl HRB.out (u8s_one _) (by simp only [maxLen]; omega) (by omega) (by simp) ?_
         intro v1 w4 hown1 hg1 hat1
         rw [Nat.zero_add, List.nil_append] at hown1
         have HB4 := Lib.hid (HB1.out.grown hg1 (by simp; omega) (by intro q hq; simp [Value.ownBlock] at hq; omega))
         have HP4 := Lib.hid (HP.out.grown hg1 (by simp [Value.ownBlock]))
         obtain ⟨A1, c1, rfl, hA1, hc1, _⟩ := own_slice hown1
         have HO1 := Lib.hid hown1
         have HR4 := Lib.hid (HRV.out.below HB4.out)
         have hs4 : w.heap.size + 1 ≤ w4.heap.size := HP4.out.lt
         clear hown1 hg1 hat1)
      | (at_builtin
         refine wpList_append_any _ rfl (.tmp 34) (.tmp 35) _ rfl (w.heap.size + 1) 5 i0 _ 1 1 Tryz.underlying23 hi0 hz0 hz1 hz2 rfl (by omega) (.slice A1 (D i).bytes.length c1) (D i).bytes.length (u8s (D i).bytes) rfl
           HO1.out w.heap.size _ b.length _ (u8s b) rfl HR4.out (u8s_one _) (by simp only [maxLen]; omega) (by omega) hs4 ?_
         intro v2 w5 hown2 hg2 hat2
         have hob : ∀ q, (Value.slice A1 (D i).bytes.length c1).ownBlock = some q → w.heap.size + 1 ≤ q := fun q hq => (HO1.out.lt q hq).1
         have HB5 := Lib.hid (HB4.out.grown hg2 (by omega) (fun q hq => by have := hob q hq; omega))
         have hp5 := HP4.out.grown hg2 (fun e => by have := hob _ e.symm; omega)
         rw [u8s_append, ← List.length_append] at hown2
         obtain ⟨A2, c2, rfl, hA2, hc2, _⟩ := own_slice hown2
         have HO2 := Lib.hid hown2
         have p0 : w5.cell? ⟨w.heap.size, 0, none⟩ = some (.int .i64 ((D i).size : Int)) := hp5.cell 0
         have p1 : w5.cell? ⟨w.heap.size, 1, none⟩ = some (.slice B (D i).bytes.length cb) := hp5.cell 1
         have p2 : w5.cell? ⟨w.heap.size, 2, none⟩ = some (.int .i64 ((D i).dur : Int)) := hp5.cell 2
         have z1 : w5.frozen? ⟨w.heap.size, 1, none⟩ = false := hp5.frozen 1
         clear hown2 hg2 hat2 hob hp5))
    rw [show (D i).bytes.length + b.length = ((D i).bytes ++ b).length from by simp]
    obtain ⟨w6, hw6⟩ : ∃ w6 : World, w6 = w5.setCell ⟨w.heap.size, 1, none⟩ (.slice A2 ((D i).bytes ++ b).length c2) := ⟨_, rfl⟩
    have HB6 : Hid (Below w.heap.size w w6) := by
      show Below _ _ _
      rw [hw6]
      exact HB5.out.setCell (Nat.le_refl _) _
    have hO6 : w6.ownsRow (w.heap.size + 1) 5 1 (.slice A2 ((D i).bytes ++ b).length c2) ((D i).bytes ++ b).length (u8s ((D i).bytes ++ b)) := by
      rw [hw6]
      exact ownsRow_setCell_below HO2.out (by show w.heap.size < w.heap.size + 1; omega) _
    rw [← hw6]
    have hBA : BytesAt w6 (fun k => S k ∨ (Value.slice A2 ((D i).bytes ++ b).length c2).ownBlock = some k) A2 c2 ((D i).bytes ++ b) := BytesAt.own hO6 (fun k hk => .inr hk)
    have hI6 : IsR w6 (fun k => S k ∨ (Value.slice A2 ((D i).bytes ++ b).length c2).ownBlock = some k) d n D := (H.out.below HB6.out).more (fun k hk => .inl hk) (fun e => by
      rcases e with e | e
      · exact H.out.nd e
      · have := (hO6.lt _ e).1; omega) ((H.out.below HB6.out).cel.or (own_cells hO6))
    have HS := Lib.hid (rset hI6 hn hm34 i hi ⟨(D i).size, (D i).bytes ++ b, (D i).dur⟩ A2 c2 hBA ⟨by simp only [List.length_append]; omega, by simp only [List.length_append]; omega, u3, u4⟩)
    have HLT : Hid (∀ k, (Value.slice A2 ((D i).bytes ++ b).length c2).ownBlock = some k → w.heap.size ≤ k) := fun k hk => by have := (hO6.lt k hk).1; omega
    clear hw6 hO6 hBA hI6
    refine HS.out.mono ?_
    rintro e w' ⟨rfl, hq⟩
    have HQ := Lib.hid hq
    clear hq
    go_wp2_with fail
    go_ret
    unfold appE appD
    rw [if_pos hf, if_pos hf]
    exact ⟨rfl, HQ.out.grow HB6.out (fun k hk => .inl hk) (fun k hk => hk.imp id (HLT.out k))⟩
  · go_enter Tryz.func69, Tryz.ntmps69
    go_wp2_with fail
    refine HV.out.mono ?_
    rintro e w' ⟨rfl, rfl⟩
    go_wp2_with fail
    go_ret
    unfold appE appD
    rw [if_neg hf, if_neg hf]
    exact ⟨rfl, RTo.refl H.out ((Below.refl _ _).alloc (Nat.le_refl _) _)⟩
end
end Go.Proofs.YtnopljanpjmbgaaGreat
namespace Go.Proofs.YtnopljanpjmbgaaGreat
open Go.RowKit
set_option linter.unusedVariables false
section
variable {w w' w1 : World} {S S' : Nat → Prop} {d n : Nat} {D : Nat → SlotD}
set_option maxRecDepth 100000 in
set_option maxHeartbeats 1000000 in
theorem rread (h : IsR w S d n D) (hn : 0 < n) (i : Nat) (hi : i < n) (off m : Nat) (hin : off + m ≤ (D i).bytes.length) :
    Calls Tryz.prog 126 #[.pointer (some ⟨d, 0, none⟩), .int .i64 (i : Int), .int .i64 (off : Int), .int .i64 (m : Int)] w fun e w' => ∃ v, e = .returned (.tuple #[v, .int .i64 0]) ∧ w'.ownsRow w.heap.size 5 1 v m (u8s (((D i).bytes.drop off).take m)) ∧ Below w.heap.size w w' := by
  obtain ⟨A, c, q0, _, hnc, hm, hc⟩ := h.cells
  obtain ⟨ad, B, cb, rfl, a0, a1, a2, hb⟩ := hc i hi
  have HV := Lib.hid (rcheck h hn i hi)
  have HRB := Lib.hid (hb.reads h.lt)
  have hb2 := hb.2.1
  have hb1 := hb.1
  obtain ⟨u1, u2, u3, u4⟩ := h.nums i hi
  unfold maxLen at hm hb2
  clear h hc hb
  have d1 : decide ((off : Int) < 0) = false := by simp
  have d2 : decide ((m : Int) < 0) = false := by simp
  have d3 : decide (((D i).bytes.length : Int) < (off : Int)) = false := by simp; omega
  have d4 : decide (((D i).bytes.length : Int) - (off : Int) < (m : Int)) = false := by simp; omega
  obtain ⟨i0, hi0, hz0, hz1, hz2⟩ := info_parts u8_info
  have HO := Lib.hid (made0b w)
  rcases Nat.eq_zero_or_pos m with hn0 | hpos
  · subst hn0
    have HR : Hid (∀ A2, Reads (w.alloc (.cells #[] 5)) w.heap.size 1 A2 0 (u8s [])) := fun A2 => ⟨rfl, fun h => absurd h (by omega)⟩
    rw [List.take_zero]
    clear HRB
    cases B with
    | none =>
      go_enter Tryz.func126, Tryz.ntmps126
      go_wp2_with fail
      refine HV.out.mono ?_
      rintro e w' ⟨rfl, rfl⟩
      go_wp2_with (at_builtin
                   refine wpList_append_any _ rfl (.tmp 46) (.tmp 52) _ rfl w.heap.size 5 i0 _ 1 1 Tryz.underlying23 hi0 hz0 hz1 hz2 rfl (by omega) (.slice (some ⟨w.heap.size, 0, none⟩) 0 0) 0 [] rfl
                     HO.out w.heap.size _ 0 _ (u8s []) rfl (HR.out _) (u8s_one _) (by simp only [maxLen]; omega) (by omega) (by simp) ?_
                   intro v1 w4 hown1 hg1 hat1
                   rw [Nat.zero_add, List.nil_append] at hown1
                   have HO1 := Lib.hid hown1
                   have HB4 := Lib.hid (((Below.refl w.heap.size w).alloc (Nat.le_refl _) (.cells #[] 5)).grown hg1 (by simp) (by intro q hq; simp [Value.ownBlock] at hq; omega))
                   clear hown1 hg1 hat1)
      all_goals
        go_ret2
        exact ⟨_, rfl, HO1.out, HB4.out⟩
    | some a =>
      go_enter Tryz.func126, Tryz.ntmps126
      go_wp2_with fail
      refine HV.out.mono ?_
      rintro e w' ⟨rfl, rfl⟩
      go_wp2_with (at_builtin
                   refine wpList_append_any _ rfl (.tmp 46) (.tmp 52) _ rfl w.heap.size 5 i0 _ 1 1 Tryz.underlying23 hi0 hz0 hz1 hz2 rfl (by omega) (.slice (some ⟨w.heap.size, 0, none⟩) 0 0) 0 [] rfl
                     HO.out w.heap.size _ 0 _ (u8s []) rfl (HR.out _) (u8s_one _) (by simp only [maxLen]; omega) (by omega) (by simp) ?_
                   intro v1 w4 hown1 hg1 hat1
                   rw [Nat.zero_add, List.nil_append] at hown1
                   have HO1 := Lib.hid hown1
                   have HB4 := Lib.hid (((Below.refl w.heap.size w).alloc (Nat.le_refl _) (.cells #[] 5)).grown hg1 (by simp) (by intro q hq; simp [Value.ownBlock] at hq; omega))
                   clear hown1 hg1 hat1)
      all_goals
        go_ret2
        exact ⟨_, rfl, HO1.out, HB4.out⟩
  · have hn0 : ¬ m = 0 := by omega
    have hc0 : ¬ cb = off := by omega
    have hr : Reads w w.heap.size 1 (Option.map (fun x => x.add off) B) m (u8s (((D i).bytes.drop off).take m)) := by
      have h1 := HRB.out.cut (k := off) (by omega) hb1
      rw [if_neg (by omega), Nat.mul_one, ← u8s_drop] at h1
      exact h1.take (by omega)
    cases B with
    | none => obtain ⟨ad, e, _⟩ := hr.2 hpos; cases e
    | some a =>
      obtain ⟨ll, hll⟩ : ∃ ll, ll = ((D i).bytes.drop off).take m := ⟨_, rfl⟩
      rw [← hll] at hr ⊢
      have HR : Hid (Reads (w.alloc (.cells #[] 5)) w.heap.size 1 (some (a.add off)) m (u8s ll)) := hr.alloc (Nat.le_refl _) _
      clear hll hr HRB
      go_enter Tryz.func126, Tryz.ntmps126
      go_wp2_with fail
      refine HV.out.mono ?_
      rintro e w' ⟨rfl, rfl⟩
      go_wp2_with (at_builtin
                   refine wpList_append_any _ rfl (.tmp 46) (.tmp 52) _ rfl w.heap.size 5 i0 _ 1 1 Tryz.underlying23 hi0 hz0 hz1 hz2 rfl (by omega) (.slice (some ⟨w.heap.size, 0, none⟩) 0 0) 0 [] rfl
                     HO.out w.heap.size (some (a.add off)) m (cb - off) (u8s ll) (show Value.slice (some (a.add off)) (off + m - off) (cb - off) = _ by rw [Nat.add_sub_cancel_left]) HR.out (u8s_one _) (by simp only [maxLen]; omega) (by omega) (by simp) ?_
                   intro v1 w4 hown1 hg1 hat1
                   rw [Nat.zero_add, List.nil_append] at hown1
                   have HO1 := Lib.hid hown1
                   have HB4 := Lib.hid (((Below.refl w.heap.size w).alloc (Nat.le_refl _) (.cells #[] 5)).grown hg1 (by simp) (by intro q hq; simp [Value.ownBlock] at hq; omega))
                   clear hown1 hg1 hat1)
      all_goals
        go_ret2
        exact ⟨_, rfl, HO1.out, HB4.out⟩
set_option maxRecDepth 100000 in
set_option maxHeartbeats 1000000 in
theorem rread_bad (h : IsR w S d n D) (hn : 0 < n) (i : Nat) (hi : i < n) (off m : Int) (hbad : badRead (D i).bytes.length off m) :
    Calls Tryz.prog 126 #[.pointer (some ⟨d, 0, none⟩), .int .i64 (i : Int), .int .i64 off, .int .i64 m] w fun e w' => e = .returned (.tuple #[.slice none 0 0, .int .i64 3]) ∧ w = w' := by
  obtain ⟨A, c, q0, _, hnc, hm, hc⟩ := h.cells
  obtain ⟨ad, B, cb, rfl, a0, a1, a2, hb⟩ := hc i hi
  have HV := Lib.hid (rcheck h hn i hi)
  have hb2 := hb.2.1
  have hb1 := hb.1
  obtain ⟨u1, u2, u3, u4⟩ := h.nums i hi
  unfold maxLen at hm hb2
  clear h hc hb
  have hcs : off < 0 ∨ (0 ≤ off ∧ m < 0) ∨ (0 ≤ off ∧ 0 ≤ m ∧ ((D i).bytes.length : Int) < off) ∨ (0 ≤ off ∧ 0 ≤ m ∧ off ≤ ((D i).bytes.length : Int) ∧ ((D i).bytes.length : Int) - off < m) := by unfold badRead at hbad; omega
  clear hbad
  rcases hcs with h | ⟨h, h'⟩ | ⟨h, h', h''⟩ | ⟨h, h', h'', h3⟩
  · have d1 : decide (off < 0) = true := by simpa using h
    go_enter Tryz.func126, Tryz.ntmps126
    go_wp2_with fail
    refine HV.out.mono ?_
    rintro e w' ⟨rfl, rfl⟩
    go_wp2_with fail
    go_ret2
    exact ⟨rfl, rfl⟩
  · have d1 : decide (off < 0) = false := by simp; omega
    have d2 : decide (m < 0) = true := by simpa using h'
    go_enter Tryz.func126, Tryz.ntmps126
    go_wp2_with fail
    refine HV.out.mono ?_
    rintro e w' ⟨rfl, rfl⟩
    go_wp2_with fail
    go_ret2
    exact ⟨rfl, rfl⟩
  · have d1 : decide (off < 0) = false := by simp; omega
    have d2 : decide (m < 0) = false := by simp; omega
    have d3 : decide (((D i).bytes.length : Int) < off) = true := by simpa using h''
    go_enter Tryz.func126, Tryz.ntmps126
    go_wp2_with fail
    refine HV.out.mono ?_
    rintro e w' ⟨rfl, rfl⟩
    go_wp2_with fail
    go_ret2
    exact ⟨rfl, rfl⟩
  · have d1 : decide (off < 0) = false := by simp; omega
    have d2 : decide (m < 0) = false := by simp; omega
    have d3 : decide (((D i).bytes.length : Int) < off) = false := by simp; omega
    have d4 : decide (((D i).bytes.length : Int) - off < m) = true := by simpa using h3
    go_enter Tryz.func126, Tryz.ntmps126
    go_wp2_with fail
    refine HV.out.mono ?_
    rintro e w' ⟨rfl, rfl⟩
    go_wp2_with fail
    go_ret2
    exact ⟨rfl, rfl⟩
theorem int_info : (Tryz.prog.info? 3).map (fun i => (i.zero, i.size, i.bytes)) = some (some (.int .i64 0), 1, 8) := by kernel_rfl
theorem ints_append (l m : List Int) : ints l ++ ints m = ints (l ++ m) := by simp [ints]
def nats (l : List Nat) : List Int := l.map (fun (i : Nat) => (i : Int))
theorem ints_one' (l : List Int) : ∀ u ∈ ints l, u.oneCell' = true := by
  intro u hu
  simp only [ints, List.mem_map] at hu
  obtain ⟨z, _, rfl⟩ := hu
  rfl
end
end Go.Proofs.YtnopljanpjmbgaaGreat
namespace Go.Proofs.YtnopljanpjmbgaaGreat
open Go.RowKit
set_option linter.unusedVariables false
theorem rrow_congr {D : Nat → SlotD} {bs bs' : Bts} {n : Nat} (h : ∀ i, i < n → bs' i = bs i) : rrow D bs' n = rrow D bs n := by
  unfold rrow
  apply List.map_congr_left
  intro q hq
  have : q / 3 < n := by have := List.mem_range.1 hq; omega
  unfold rcell
  rw [h _ this]
/-- What the document's New gives. -/
def RNewQ (w : World) (zs : List Int) (n : Nat) (e : Ending) (w' : World) : Prop :=
  ((∀ z ∈ zs, okSize z) ∧ ∃ d S, e = .returned (.tuple #[.pointer (some ⟨d, 0, none⟩), .int .i64 0]) ∧ IsR w' S d n (newD zs) ∧ w.heap.size ≤ d ∧ (∀ k, S k → w.heap.size ≤ k) ∧ Below w.heap.size w w') ∨
    ((∃ z ∈ zs, ¬ okSize z) ∧ e = .returned (.tuple #[.pointer none, .int .i64 2]) ∧ Below w.heap.size w w')
set_option maxRecDepth 100000 in
set_option maxHeartbeats 400000 in
theorem rnew_len (A : Option Addr) (n c : Nat) (w : World) (h : n < 1 ∨ 34 < n) (hm : n ≤ maxLen) :
    Calls Tryz.prog 54 #[.slice A n c] w fun e w' => e = .returned (.tuple #[.pointer none, .int .i64 2]) ∧ w = w' := by
  unfold maxLen at hm
  by_cases h1 : n < 1
  · clear h
    go_enter Tryz.func54, Tryz.ntmps54
    go_wp2_with fail
    go_ret2
    exact ⟨rfl, rfl⟩
  · have h2 : 34 < n := by omega
    clear h
    go_enter Tryz.func54, Tryz.ntmps54
    go_wp2_with fail
    go_ret2
    exact ⟨rfl, rfl⟩
theorem isR_new (w : World) (D : Nat → SlotD) : IsR (w.alloc (.cells #[.slice none 0 0] 143)) (fun _ => False) w.heap.size 0 D :=
  ⟨⟨none, 0, fun _ => (none, 0), Blk.new w _ _, World.ownsRow_nil _ _ _ _, fun k hk => by simp [Value.ownBlock] at hk, fun i hi => by omega⟩, fun h => h, fun _ h => h.elim, fun i hi => by omega⟩
theorem reads_newx (W : World) (t : TypeId) (cs : Array Value) (fr : Nat × Nat) (n k : Nat) (hn : n * k = cs.size) :
    Reads (W.alloc (.cells cs t fr)) (W.heap.size + 1) k (some ⟨W.heap.size, 0, none⟩) n cs.toList := by
  refine ⟨by simp [hn], fun _ => ⟨_, rfl, by simp, fun j u hu => ?_⟩⟩
  rw [add_zero_addr, cell_of_row _ _ j _ t fr (heap_alloc_new W _)]
  simpa using hu
theorem one_three (z : Int) : ∀ u ∈ [Value.int .i64 z, .slice none 0 0, .int .i64 0], u.oneCell' = true := by
  intro u hu
  simp only [List.mem_cons, List.not_mem_nil, or_false] at hu
  rcases hu with rfl | rfl | rfl <;> rfl
set_option maxRecDepth 100000 in
set_option maxHeartbeats 4000000 in
theorem rnew_any (A : Option Addr) (n c : Nat) (zs : List Int) (w : World) (hr : Reads w w.heap.size 1 A n (ints zs)) (h1 : 1 ≤ n) (h2 : n ≤ 34) :
    Calls Tryz.prog 54 #[.slice A n c] w (RNewQ w zs n) := by
  obtain ⟨i0, hi0, hz0, hz1, hz2⟩ := info_parts slot_info
  have hlen : zs.length = n := by have := hr.1; rw [ints_length] at this; omega
  have HR := Lib.hid hr
  have HL := Lib.hid hlen
  clear hr hlen
  go_enter Tryz.func54, Tryz.ntmps54
  go_wp2_with fail
  go_loopg [5] n (fun q v5 wr => ∃ (j : Nat) (S : Nat → Prop), j + q = n ∧ v5 = .int .i64 j ∧ (∀ i, i < j → okSize (zs.getD i 0)) ∧ IsR wr S w.heap.size j (newD zs) ∧ (∀ k, S k → w.heap.size ≤ k) ∧ Below w.heap.size w wr)
  case atStart => exact ⟨0, fun _ => False, by omega, rfl, (fun i hi => by omega), isR_new w _, fun k hk => hk.elim, by go_grown⟩
  case round =>
    obtain ⟨j, S, hj, rfl, hok, hd, hf, hb⟩ := hrel
    have HOK := Lib.hid hok
    clear hok
    have hj' : j ≤ n := by omega
    have HJ := Lib.hid hj
    have HD := Lib.hid hd
    have HF := Lib.hid hf
    have HB := Lib.hid hb
    by_cases hlt : j < n
    · obtain ⟨ad, u, rfl, hab, hx, hc⟩ := (HR.out.below hb).at_ hlt
      have hjz : j < zs.length := by rw [HL.out]; exact hlt
      rw [ints_at hjz] at hx
      injection hx with hx
      subst hx
      obtain ⟨z, hzz⟩ : ∃ z, zs[j] = z := ⟨_, rfl⟩
      have HZ := Lib.hid hzz
      rw [hzz] at hc
      by_cases hok : ¬ okSize z
      · have HNO := Lib.hid hok
        have HM := Lib.hid (List.getElem_mem hjz)
        by_cases hb1 : z < 1
        · clear hj hd hf hb hok hzz
          go_wp2_with fail
          go_ret2
          exact .inr ⟨⟨z, by rw [← HZ.out]; exact HM.out, HNO.out⟩, rfl, HB.out⟩
        · have hb2 : 8192 < z := by unfold okSize at hok; omega
          clear hj hd hf hb hok hzz
          go_wp2_with fail
          go_ret2
          exact .inr ⟨⟨z, by rw [← HZ.out]; exact HM.out, HNO.out⟩, rfl, HB.out⟩
      replace hok : okSize z := by by_cases e : okSize z; exact e; exact absurd e hok
      have HOK2 : Hid (∀ i, i < j + 1 → okSize (zs.getD i 0)) := fun i hi => by
        by_cases e : i = j
        · subst e
          rw [List.getD_eq_getElem?_getD, List.getElem?_eq_getElem hjz, Option.getD_some, hzz]
          exact hok
        · exact HOK.out i (by omega)
      obtain ⟨z', rfl⟩ : ∃ z' : Nat, z = (z' : Int) := ⟨z.toNat, by have := hok.1; omega⟩
      have hz1' : 1 ≤ z' := by have := hok.1; omega
      have hz2' : z' ≤ 8192 := by have := hok.2; omega
      have HDJ : Hid (newD zs j = ⟨z', [], 0⟩) := by
        show _ = _
        unfold newD
        rw [List.getD_eq_getElem?_getD, List.getElem?_eq_getElem hjz, Option.getD_some, hzz]
        rfl
      obtain ⟨⟨A4, c4, bs, k1, k2, k3, k4⟩, k5, k6, k7⟩ := hd
      obtain ⟨A5, c5, e5, k8, k9, _⟩ := own_slice k2
      injection e5 with e6 e7 e8
      subst e6 e8
      clear e7
      have q0 : wr.cell? ⟨w.heap.size, 0, none⟩ = some (.slice A4 j c4) := k1.cell 0
      have f0 : wr.frozen? ⟨w.heap.size, 0, none⟩ = false := k1.frozen 0
      have hdl : w.heap.size < wr.heap.size := k1.lt
      have K1 := Lib.hid k1
      have K2 := Lib.hid k2
      have K3 := Lib.hid k3
      have K4 := Lib.hid k4
      have K5 := Lib.hid k5
      have K6 := Lib.hid k6
      have K7 := Lib.hid k7
      unfold maxLen at k9
      clear hj hf hb hok hzz k1 k2 k3 k4 k5 k6 k7
      go_wp2_with fail
      go_region_law (first
        | (refine step_append_any _ (by rfl) (.tmp 38) (.tmp 44) _ (by rfl) 0 145 i0 _ 3 40 Tryz.underlying141 hi0 hz0 hz1 hz2 (by rfl) (by omega) (.slice A4 j c4) j (rrow (newD zs) bs j) (by rfl)
            (K2.out.alloc _) (wr.heap.size + 1) _ 1 1 [.int .i64 (z' : Int), .slice none 0 0, .int .i64 0] (by rfl) (reads_newx wr 145 #[.int .i64 (z' : Int), .slice none 0 0, .int .i64 0] (0, 0) 1 3 rfl) (one_three _) (by simp only [maxLen]; omega) (by omega) (Nat.zero_le _) ?_; intro v1 w4 hown1 hg1 hat1
           obtain ⟨A6, c6, rfl, hA6, hc6, _⟩ := own_slice hown1
           have HG1 := Lib.hid hg1
           have HO1 := Lib.hid hown1
           have HA1 := Lib.hid hat1
           have hcw : w4.cell? ⟨w.heap.size, 0, none⟩ = some (.slice A4 j c4) := by
             rw [World.cell?_of_block (hg1.block w.heap.size (by simp; omega) (fun e => K5.out (K3.out _ e.symm)))]
             exact ((((Below.refl wr.heap.size wr).alloc (Nat.le_refl _) _).drew).cell (p := ⟨w.heap.size, 0, none⟩) hdl).trans q0
           have hfw : w4.frozen? ⟨w.heap.size, 0, none⟩ = false := by
             rw [World.frozen?_of_block (hg1.block w.heap.size (by simp; omega) (fun e => K5.out (K3.out _ e.symm)))]
             rw [World.frozen?_of_block ((((Below.refl wr.heap.size wr).alloc (Nat.le_refl _) _).drew).block w.heap.size hdl)]
             exact f0
           clear hown1 hg1 hat1))
      all_goals
        go_wp2_with fail
        go_roundg (gk - 1)
        case measure => have := HJ.out; omega
        case rel =>
          have hb4 : Below wr.heap.size wr (wr.alloc (.cells #[.int .i64 (z' : Int), .slice none 0 0, .int .i64 0] 145)).drew := ((Below.refl wr.heap.size wr).alloc (Nat.le_refl _) _).drew
          have hc4 : Chg (fun k => S k) wr w4 := (Chg.of_below (F := fun k => S k) hb4).trans ((Chg.refl (fun k => S k) _).grown HG1.out (fun q hq => .inl (K3.out q hq))) (fun _ _ h => h)
          have hlt6 : ∀ k, (Value.slice A6 (j + 1) c6).ownBlock = some k → k < w4.heap.size := fun k hk => (HO1.out.lt k hk).2
          have hS6 : ∀ k, (Value.slice A6 (j + 1) c6).ownBlock = some k → S k ∨ wr.heap.size < k := fun k hk => by
            rcases HA1.out with e | e
            · rw [e] at hk; exact .inl (K3.out k hk)
            · rw [e] at hk
              injection hk with hk
              exact .inr (by rw [← hk]; simp)
          have hO7 : (w4.setCell ⟨w.heap.size, 0, none⟩ (.slice A6 (j + 1) c6)).ownsRow 0 145 3 (.slice A6 (j + 1) c6) (j + 1) (rrow (newD zs) bs j ++ [.int .i64 (z' : Int), .slice none 0 0, .int .i64 0]) :=
            own_chg HO1.out ((Chg.refl (fun k => k = w.heap.size) w4).setCell (p := ⟨w.heap.size, 0, none⟩) (.inl rfl) _) (fun k hk e => by
              rcases hS6 k hk with h | h
              · exact K5.out (by rw [← e]; exact h)
              · omega)
          refine ⟨j + 1, fun k => (Value.slice A6 (j + 1) c6).ownBlock = some k, by have := HJ.out; omega, by go_num, HOK2.out, ⟨⟨A6, c6, updF bs j (none, 0), ?_, ?_, fun k hk => hk, fun i hi => ?_⟩, ?_, ?_, fun i hi => ?_⟩, ?_, ?_⟩
          · exact (K1.out.chg hc4 K5.out).set_ 0 _
          · have e : rrow (newD zs) (updF bs j (none, 0)) (j + 1) = rrow (newD zs) bs j ++ [.int .i64 (z' : Int), .slice none 0 0, .int .i64 0] := by
              rw [← rrow_snoc, updF_same, HDJ.out, rrow_congr (fun i hi => updF_other _ _ (by omega))]
              rfl
            rw [e]
            exact hO7
          · by_cases e : i = j
            · subst e
              rw [updF_same, HDJ.out]
              exact BytesAt.nil_ _ _
            · rw [updF_other _ _ e]
              have hk := K4.out i (by omega)
              exact ⟨hk.1, hk.2.1, fun h => absurd h (by show ¬ 0 < ([] : List (BitVec 8)).length; simp)⟩
          · intro e
            rcases hS6 _ e with h | h
            · exact K5.out h
            · omega
          · exact own_cells hO7
          · by_cases e : i = j
            · subst e
              rw [HDJ.out]
              exact ⟨Nat.le_refl _, Nat.zero_le _, hz1', hz2'⟩
            · exact K7.out i (by omega)
          · intro k e
            rcases hS6 k e with h | h
            · exact HF.out k h
            · omega
          · exact (HB.out.trans (hc4.below HB.out.size HF.out)).setCell (Nat.le_refl _) _
    · have e8 : j = n := by omega
      subst e8
      clear hj hd hf hb
      go_wp2_with fail
      go_ret2
      refine .inl ⟨fun z hz => ?_, _, S, rfl, HD.out, Nat.le_refl _, HF.out, HB.out⟩
      obtain ⟨i, hi, rfl⟩ := List.getElem_of_mem hz
      have := HOK.out i (by rw [← HL.out]; exact hi)
      rwa [List.getD_eq_getElem?_getD, List.getElem?_eq_getElem hi, Option.getD_some] at this
end Go.Proofs.YtnopljanpjmbgaaGreat
namespace Go.Proofs.YtnopljanpjmbgaaGreat
open Go.RowKit
set_option linter.unusedVariables false
/-- The first j slots have crashed. -/
def crTo (zs : List Int) (D : Nat → SlotD) (j : Nat) : Nat → SlotD := fun i => if i < j then crashS (keepAt zs i) (D i) else D i
theorem crTo_zero (zs : List Int) (D : Nat → SlotD) : crTo zs D 0 = D := by funext i; simp [crTo]
theorem crTo_succ (zs : List Int) (D : Nat → SlotD) (j : Nat) : crTo zs D (j + 1) = updF (crTo zs D j) j (crashS (keepAt zs j) (D j)) := by
  funext i
  show (if i < j + 1 then crashS (keepAt zs i) (D i) else D i) = if i = j then crashS (keepAt zs j) (D j) else (if i < j then crashS (keepAt zs i) (D i) else D i)
  by_cases e : i = j
  · subst e; simp
  · rw [if_neg e]
    by_cases e2 : i < j
    · rw [if_pos (by omega), if_pos e2]
    · rw [if_neg (by omega), if_neg e2]
section
variable {w w' w1 : World} {S S' : Nat → Prop} {d n : Nat} {D : Nat → SlotD}
theorem RTo.comp {S1 : Nat → Prop} (h1 : ∀ k, S k → S1 k) (h2 : ∀ k, S1 k → S k ∨ w.heap.size ≤ k) (hc : Chg (fun k => k = d) w w1) (h : RTo w1 w' S1 d n D) : RTo w w' S d n D := by
  obtain ⟨S2, l1, l2, l3, l4⟩ := h
  have := hc.size
  exact ⟨S2, l1, fun k hk => l2 k (h1 k hk), fun k hk => by
    rcases l3 k hk with e | e
    · exact h2 k e
    · exact .inr (by omega), hc.trans l4 (fun _ _ h => h)⟩
theorem RTo.trans {D1 : Nat → SlotD} {w2 : World} (h : RTo w w1 S d n D) (h2 : ∀ S1, IsR w1 S1 d n D → RTo w1 w2 S1 d n D1) : RTo w w2 S d n D1 := by
  obtain ⟨S1, k1, k2, k3, k4⟩ := h
  obtain ⟨S2, l1, l2, l3, l4⟩ := h2 S1 k1
  have := k4.size
  exact ⟨S2, l1, fun k hk => l2 k (k2 k hk), fun k hk => by
    rcases l3 k hk with e | e
    · exact k3 k e
    · exact .inr (by omega), k4.trans l4 (fun _ _ h => h)⟩
theorem rset' (h : IsR w S d n D) (hn : 0 < n) (hm34 : n ≤ 65536) (i : Nat) (hi : i < n) (x : SlotD) (B : Option Addr) (cb ln : Nat) (a b : Int) (ha : a = (x.size : Int)) (hl : ln = x.bytes.length) (hbd : b = (x.dur : Int)) (hb : BytesAt w S B cb x.bytes) (hx : x.dur ≤ x.bytes.length ∧ x.bytes.length ≤ x.size ∧ 1 ≤ x.size ∧ x.size ≤ 8192) :
    Calls Tryz.prog 115 #[.pointer (some ⟨d, 0, none⟩), .int .i64 (i : Int), .agg #[.int .i64 a, .slice B ln cb, .int .i64 b]] w fun e w' => e = .returned (.tuple #[]) ∧ RTo w w' S d n (updF D i x) := by
  subst ha hl hbd
  exact rset h hn hm34 i hi x B cb hb hx
set_option maxRecDepth 100000 in
set_option maxHeartbeats 4000000 in
theorem rcrash (h : IsR w S d n D) (hn : 0 < n) (hm34 : n ≤ 65536) (A : Option Addr) (m c : Nat) (zs : List Int)
    (hr : ∀ W, Chg (fun k => k = d) w W → Reads W W.heap.size 1 A m (ints zs)) (h1 : 1 ≤ m) (h2 : m ≤ 34) (hk : ∀ z ∈ zs, 0 ≤ z ∧ z ≤ 9223372036854775807) :
    Calls Tryz.prog 118 #[.pointer (some ⟨d, 0, none⟩), .slice A m c] w fun e w' => e = .returned (.int .i64 0) ∧ RTo w w' S d n (crashD zs D) := by
  have hlen : zs.length = m := by have := (hr w (Chg.refl _ _)).1; rw [ints_length] at this; omega
  have H := Lib.hid h
  have HV := Lib.hid (rvalid h hn)
  have HL := Lib.hid hlen
  have HK := Lib.hid hk
  have HA : Hid (∀ W, Chg (fun k => k = d) w W → ∀ i, i < m → ∃ ad, A = some ad ∧ 0 ≤ zs.getD i 0 ∧ zs.getD i 0 ≤ 9223372036854775807 ∧ ad.block < W.heap.size ∧ W.cell? (ad.add i) = some (.int .i64 (zs.getD i 0))) := fun W hW i hi => by
    obtain ⟨ad, u, e, hab, hx, hc⟩ := (hr W hW).at_ hi
    have hkz : i < zs.length := by omega
    rw [ints_at hkz] at hx
    injection hx with hx
    subst hx
    rw [List.getD_eq_getElem?_getD, List.getElem?_eq_getElem hkz, Option.getD_some]
    obtain ⟨z0, z1⟩ := hk _ (List.getElem_mem hkz)
    exact ⟨ad, e, z0, z1, hab, hc⟩
  have t1 : ((m : Int) == 0) = false := by simp; omega
  have t2 : decide (34 < (m : Int)) = false := by simp; omega
  clear h hr hk hlen
  go_enter Tryz.func118, Tryz.ntmps118
  go_wp2_with fail
  refine HV.out.mono ?_
  rintro e w' ⟨rfl, rfl⟩
  go_wp2_with fail
  go_loopg [5] m (fun q v5 wr => ∃ (j : Nat), j + q = m ∧ v5 = .int .i64 j ∧ w = wr)
  case atStart => exact ⟨0, by omega, rfl, rfl⟩
  case round =>
    obtain ⟨j, hj, rfl, rfl⟩ := hrel
    have HJ := Lib.hid hj
    have hj' : j ≤ m := by omega
    by_cases hlt : j < m
    · obtain ⟨ad, rfl, z0, z1, _, hc⟩ := HA.out w (Chg.refl _ _) j hlt
      obtain ⟨z, hz⟩ : ∃ z, zs.getD j 0 = z := ⟨_, rfl⟩
      rw [hz] at hc z0 z1
      clear hj hz
      go_wp2_with fail
      go_roundg (gk - 1)
      case measure => have := HJ.out; omega
      case rel => exact ⟨j + 1, by have := HJ.out; omega, by go_num, rfl⟩
    · have e8 : j = m := by omega
      subst e8
      clear hj HJ
      go_wp2_with fail
      go_loopg [6] n (fun q v6 wr => ∃ (i : Nat), i + q = n ∧ v6 = .int .i64 i ∧ RTo w wr S d n (crTo zs D i))
      case atStart => exact ⟨0, by omega, rfl, by rw [crTo_zero]; exact RTo.refl H.out (Below.refl _ _)⟩
      case round =>
        obtain ⟨i, hi, rfl, ht⟩ := hrel
        have HI := Lib.hid hi
        have HT := Lib.hid ht
        obtain ⟨S1, hd, hs1, hs2, hch⟩ := ht
        have HS1 := Lib.hid hs1
        have HS2 := Lib.hid hs2
        clear hs1 hs2
        have hi' : i ≤ n := by omega
        by_cases hlt2 : i < n
        · obtain ⟨A2, c2, q0, _, hnc, hcm, hc⟩ := hd.cells
          obtain ⟨ad2, B, cb, rfl, a0, a1, a2, hb⟩ := hc i hlt2
          have hcx : crTo zs D i i = D i := by simp [crTo]
          rw [hcx] at a0 a1 a2 hb
          obtain ⟨u1, u2, u3, u4⟩ := H.out.nums i hlt2
          have hxm : i % j < j := Nat.mod_lt _ (by omega)
          obtain ⟨ad, rfl, z0, z1, had, hz⟩ := HA.out wr hch (i % j) hxm
          have hb1 := hb.1
          have hb2 := hb.2.1
          have hka : keepAt zs i = zs.getD (i % j) 0 := by unfold keepAt; rw [HL.out]
          obtain ⟨z, hzz⟩ : ∃ z, zs.getD (i % j) 0 = z := ⟨_, rfl⟩
          rw [hzz] at hz z0 z1 hka
          obtain ⟨y, hy⟩ : ∃ y, i % j = y := ⟨_, rfl⟩
          rw [hy] at hz hxm
          have hrem : Int.tmod (i : Int) (j : Int) = (y : Int) := by rw [Int.tmod_eq_emod_of_nonneg (by omega)]; omega
          obtain ⟨L, hL⟩ : ∃ L, (D i).bytes.length = L := ⟨_, rfl⟩
          obtain ⟨dur, hdur⟩ : ∃ dur, (D i).dur = dur := ⟨_, rfl⟩
          have hcr : crashN z (D i) = dur + min z.toNat (L - dur) := by unfold crashN; rw [hL, hdur]
          obtain ⟨K, hK⟩ : ∃ K, crashN z (D i) = K := ⟨_, rfl⟩
          obtain ⟨mn, hmn⟩ : ∃ mn : Nat, (if (L : Int) - (dur : Int) < z then (L : Int) - (dur : Int) else z) = (mn : Int) := ⟨min z.toNat (L - dur), by split <;> omega⟩
          have hKm : K = dur + mn := by rw [← hK, hcr]; split at hmn <;> omega
          unfold maxLen at hcm hb2
          have HX : Hid (crashS (keepAt zs i) (D i) = ⟨(D i).size, (D i).bytes.take K, K⟩ ∧ K ≤ L) := ⟨by rw [hka]; unfold crashS; rw [hK], by split at hmn <;> omega⟩
          obtain ⟨wx, hwx⟩ : ∃ wx, wx = wr.alloc (.cells #[.int .i64 ((D i).size : Int), .slice B L cb, .int .i64 (dur : Int)] 145) := ⟨_, rfl⟩
          have hbx : Below wr.heap.size wr wx := by rw [hwx]; exact (Below.refl _ _).alloc (Nat.le_refl _) _
          have p0 : wx.cell? ⟨wr.heap.size, 0, none⟩ = some (.int .i64 ((D i).size : Int)) := by rw [hwx]; exact (Blk.new wr _ _).cell 0
          have p1 : wx.cell? ⟨wr.heap.size, 1, none⟩ = some (.slice B L cb) := by rw [hwx]; exact (Blk.new wr _ _).cell 1
          have p2 : wx.cell? ⟨wr.heap.size, 2, none⟩ = some (.int .i64 (dur : Int)) := by rw [hwx]; exact (Blk.new wr _ _).cell 2
          have p5 : wx.frozen? ⟨wr.heap.size, 2, none⟩ = false := by rw [hwx]; exact (Blk.new wr _ _).frozen 2
          have p4 : wx.frozen? ⟨wr.heap.size, 1, none⟩ = false := by rw [hwx]; exact (Blk.new wr _ _).frozen 1
          have p3 : wx.cell? (ad.add y) = some (.int .i64 z) := (hbx.cell (p := ad.add y) (by rw [block_of_add]; exact had)).trans hz
          have HBX := Lib.hid hbx
          have HB := Lib.hid hb
          have HCH := Lib.hid hch
          have HDK := Lib.hid hd
          have HWX := Lib.hid hwx
          rw [hL] at a1 u1 u2 hb1
          rw [hdur] at a2 u1
          have HL2 := Lib.hid hL
          clear hi hd hch hc hb hcx hka hzz hy hcr hK hwx hbx hL hdur
          have hm64 : j ≠ 0 := by omega
          have hwz : IntKind.i64.wrap z = z := by rw [IntKind.wrap_i64]; omega
          have hle : dur + mn ≤ cb := by have := HX.out.2; omega
          have hws : IntKind.i64.wrap ((dur : Int) + (mn : Int)) = (dur : Int) + (mn : Int) := by rw [IntKind.wrap_i64]; omega
          have hwd : IntKind.i64.wrap ((L : Int) - (dur : Int)) = (L : Int) - (dur : Int) := by rw [IntKind.wrap_i64]; omega
          have hi0' : (0 : Int) ≤ (dur : Int) + (mn : Int) := by omega
          have hi1' : (dur : Int) + (mn : Int) ≤ (cb : Int) := by omega
          have htn : ((dur : Int) + (mn : Int)).toNat = dur + mn := by omega
          cases B with
          | none =>
            go_wp2_with fail
            rw [← HWX.out]
            go_still_tail 21, (by kernel_rfl)
            change wpList _ _ _ _ _ wx.drew
            obtain ⟨w2, hw2⟩ : ∃ w2, w2 = wx.drew := ⟨_, rfl⟩
            have r0 : w2.cell? ⟨wr.heap.size, 0, none⟩ = some (.int .i64 ((D i).size : Int)) := by rw [hw2]; exact p0
            have r1 : w2.cell? ⟨wr.heap.size, 1, none⟩ = some (.slice none L cb) := by rw [hw2]; exact p1
            have r2 : w2.cell? ⟨wr.heap.size, 2, none⟩ = some (.int .i64 (dur : Int)) := by rw [hw2]; exact p2
            have r3 : w2.frozen? ⟨wr.heap.size, 1, none⟩ = false := by rw [hw2]; exact p4
            have r4 : w2.frozen? ⟨wr.heap.size, 2, none⟩ = false := by rw [hw2]; exact p5
            have HB2 : Hid (Below wr.heap.size wr w2) := by
              show Below _ _ _
              rw [hw2]
              exact HBX.out.drew
            rw [← hw2]
            clear p0 p1 p2 p3 p4 p5 hw2 HWX HBX hmn hws hwd hz hrem
            go_wp2_with fail
            obtain ⟨w3, hw3⟩ : ∃ w3, w3 = (w2.setCell ⟨wr.heap.size, 1, none⟩ (.slice none (dur + mn) cb)).setCell ⟨wr.heap.size, 2, none⟩ (.int .i64 ((dur : Int) + (mn : Int))) := ⟨_, rfl⟩
            rw [← hw3]
            have hB3 : Below wr.heap.size wr w3 := by
              rw [hw3]
              exact (HB2.out.setCell (Nat.le_refl _) _).setCell (Nat.le_refl _) _
            have HSET := Lib.hid (rset' (HDK.out.below hB3) hn hm34 i hlt2 ⟨(D i).size, (D i).bytes.take K, K⟩ none cb (dur + mn) _ ((dur : Int) + (mn : Int)) rfl (by have := HX.out.2; have := HL2.out; rw [List.length_take]; omega) (by rw [hKm]; simp) ((HB.out.take K).chg HDK.out.lt (Chg.of_below (F := fun _ => False) hB3) (fun _ _ h => h)) (by have := HX.out.2; have := HL2.out; rw [List.length_take]; refine ⟨?_, ?_, u3, u4⟩ <;> simp only <;> omega))
            have HBB := Lib.hid hB3
            clear hw3 hB3
            refine HSET.out.mono ?_
            rintro e w4 ⟨rfl, hq⟩
            have HQ := Lib.hid hq
            clear hq
            go_wp2_with fail
            go_roundg (gk - 1)
            case measure => have := HI.out; omega
            case rel =>
              refine ⟨i + 1, by have := HI.out; omega, by go_num, ?_⟩
              rw [crTo_succ, HX.out.1]
              exact RTo.comp HS1.out HS2.out HCH.out (HQ.out.before HBB.out)
          | some B =>
            go_wp2_with fail
            rw [← HWX.out]
            go_still_tail 21, (by kernel_rfl)
            change wpList _ _ _ _ _ wx.drew
            obtain ⟨w2, hw2⟩ : ∃ w2, w2 = wx.drew := ⟨_, rfl⟩
            have r0 : w2.cell? ⟨wr.heap.size, 0, none⟩ = some (.int .i64 ((D i).size : Int)) := by rw [hw2]; exact p0
            have r1 : w2.cell? ⟨wr.heap.size, 1, none⟩ = some (.slice (some B) L cb) := by rw [hw2]; exact p1
            have r2 : w2.cell? ⟨wr.heap.size, 2, none⟩ = some (.int .i64 (dur : Int)) := by rw [hw2]; exact p2
            have r3 : w2.frozen? ⟨wr.heap.size, 1, none⟩ = false := by rw [hw2]; exact p4
            have r4 : w2.frozen? ⟨wr.heap.size, 2, none⟩ = false := by rw [hw2]; exact p5
            have HB2 : Hid (Below wr.heap.size wr w2) := by
              show Below _ _ _
              rw [hw2]
              exact HBX.out.drew
            rw [← hw2]
            clear p0 p1 p2 p3 p4 p5 hw2 HWX HBX hmn hws hwd hz hrem
            go_wp2_with fail
            obtain ⟨w3, hw3⟩ : ∃ w3, w3 = (w2.setCell ⟨wr.heap.size, 1, none⟩ (.slice (some B) (dur + mn) cb)).setCell ⟨wr.heap.size, 2, none⟩ (.int .i64 ((dur : Int) + (mn : Int))) := ⟨_, rfl⟩
            rw [← hw3]
            have hB3 : Below wr.heap.size wr w3 := by
              rw [hw3]
              exact (HB2.out.setCell (Nat.le_refl _) _).setCell (Nat.le_refl _) _
            have HSET := Lib.hid (rset' (HDK.out.below hB3) hn hm34 i hlt2 ⟨(D i).size, (D i).bytes.take K, K⟩ (some B) cb (dur + mn) _ ((dur : Int) + (mn : Int)) rfl (by have := HX.out.2; have := HL2.out; rw [List.length_take]; omega) (by rw [hKm]; simp) ((HB.out.take K).chg HDK.out.lt (Chg.of_below (F := fun _ => False) hB3) (fun _ _ h => h)) (by have := HX.out.2; have := HL2.out; rw [List.length_take]; refine ⟨?_, ?_, u3, u4⟩ <;> simp only <;> omega))
            have HBB := Lib.hid hB3
            clear hw3 hB3
            refine HSET.out.mono ?_
            rintro e w4 ⟨rfl, hq⟩
            have HQ := Lib.hid hq
            clear hq
            go_wp2_with fail
            go_roundg (gk - 1)
            case measure => have := HI.out; omega
            case rel =>
              refine ⟨i + 1, by have := HI.out; omega, by go_num, ?_⟩
              rw [crTo_succ, HX.out.1]
              exact RTo.comp HS1.out HS2.out HCH.out (HQ.out.before HBB.out)
        · have e8 : i = n := by omega
          subst e8
          clear hi
          have hdd := hd.cells
          obtain ⟨A2, c2, q0, _, hnc, hcm, hc⟩ := hdd
          unfold maxLen at hcm
          clear hd hch hc
          go_wp2_with fail
          go_ret
          refine ⟨rfl, ?_⟩
          obtain ⟨S2, l1, l2, l3, l4⟩ := HT.out
          exact ⟨S2, l1.congr (fun q hq => by unfold crTo crashD; rw [if_pos hq]), l2, l3, l4⟩
end
end Go.Proofs.YtnopljanpjmbgaaGreat
namespace Go.Proofs.YtnopljanpjmbgaaGreat
open Go.RowKit Go.Shelf
set_option linter.unusedVariables false
attribute [local go_sem] Oper.semAt_some
theorem wpListIn_append_any {F : Fence} {n : Nat} {P : Program} (w : World) {ops : Array Oper} {rest : List Oper} {o : Oper} {a : Act} {Q : Exit → Act → World → Prop} (hg : o.guard = none) (s x : Operand) (t : TypeId)
    (ho : o.op = .call { callee := .builtin .append, args := #[s, x], argTypes := #[t, t] })
    (base : Nat) (e : TypeId) (i : TypeInfo) (z : Value) (size bytes : Nat) (ht : P.underlying t = some (.slice e)) (hi : P.info? e = some i) (hz : i.zero = some z)
    (hsize : i.size = size) (hby : i.bytes = bytes) (hzs : z.cells.size = size) (hsz : 0 < size)
    (v : Value) (k : Nat) (xs : List Value) (hs : a.eval s = v) (hown : w.ownsRow base e size v k xs)
    (B : Nat) (A : Option Addr) (m c : Nat) (news : List Value) (hx : a.eval x = .slice A m c) (hr : Reads w B size A m news) (h1 : ∀ u ∈ news, u.oneCell' = true)
    (h63 : k + m ≤ maxLen) (hbytes : (k + m) * bytes ≤ 140737488355328) (hbase : base ≤ w.heap.size)
    (hK : ∀ v' w', w'.ownsRow base e size v' (k + m) (xs ++ news) → w.grownBy w' v.ownBlock → (v'.ownBlock = v.ownBlock ∨ v'.ownBlock = some w.heap.size) → wpListIn F n P ops Q rest (a.put o.dst v') w') : wpListIn F n P ops Q (o :: rest) a w := by
  refine wpListIn_plain hg fun K hK' => ?_
  obtain ⟨v', w', hrun, r1, r2, r3⟩ := run_append_any (P := P) w base t o.type e i z size bytes ht hi hz hsize hby hzs hsz v k xs hown B A m c news hr h1 h63 hbytes hbase
  unfold Oper.wpIn
  refine ⟨?_, ?_⟩
  · simp [Oper.about, ho, resolve, Target.leads, Sem.run_pure]
  · rw [Oper.semAt_plain F _ _ (by rw [ho]; intro c hc'; cases hc')]
    simp [execOp, ho, resolve, invoke, builtin, hs, hx, hrun, Result.andThen]
    exact hK' _ _ (hK v' w' r1 r2 r3)
/-- What the loop over Used keeps: the two boxes, the row so far. -/
def UsedI (B : Nat) (w : World) (p : Option Addr) (pre : List Nat) (W : World) : Prop :=
  ∃ A c, Sep B w W [blkOb (B + 1) 71 #[.pointer p], blkOb B 62 #[.slice A pre.length c], rowOb 3 1 (.slice A pre.length c) pre.length (ints (nats pre))]
theorem usedI_cells (B : Nat) (p : Option Addr) (pre : List Nat) (A : Option Addr) (c : Nat) : AllCells [blkOb (B + 1) 71 #[.pointer p], blkOb B 62 #[.slice A pre.length c], rowOb 3 1 (.slice A pre.length c) pre.length (ints (nats pre))] :=
  AllCells.cons (cellOb_blk _ _ _) (AllCells.cons (cellOb_blk _ _ _) (AllCells.cons (cellOb_row _ _ _ _ _) AllCells.nil))
theorem ownFrom_used {B B' : Nat} (w : World) (p : Option Addr) (hB : B ≤ B') : OwnFrom B' (UsedI B w p) := fun s W W' row h hg hr => by
  obtain ⟨A, c, hs⟩ := h
  exact ⟨A, c, hs.others (usedI_cells B p s A c) hg (fun r e => ⟨by have := (hr r e).1; omega, (hr r e).2⟩)⟩
set_option maxRecDepth 100000 in
set_option maxHeartbeats 4000000 in
theorem used1_vis_no (m : Nat) (hm : 1 ≤ m) (Bn : Nat) (p : Option Addr) (I : List Nat → World → Prop) (w : World)
    (hI : ∀ pre W, I pre W → W.cell? ⟨Bn, 0, none⟩ = some (.pointer p) ∧ NoDisk W p) :
    SeqVis Fence.wide m Tryz.prog 153 #[.pointer (some ⟨Bn, 0, none⟩)] (fun x : Nat => #[Value.int .i64 (x : Int)]) I (fun _ _ => False) (fun xs => xs = []) w := by
  rintro l J W hbW hJI hY h0
  obtain ⟨hBn, hd0⟩ := hI _ _ (hJI _ _ h0)
  have HV := Lib.hid (slots_nodisk hd0)
  have HJ := Lib.hid h0
  clear hd0 hI hJI hY h0
  refine callsIn_of_wp Tryz.func153 rfl trivial ?_ rfl
  simp only [Tryz.ntmps153, List.size_toArray, List.length_cons, List.length_nil, Nat.reduceAdd, Nat.reduceSub, Array.replicate_succ, Array.replicate_zero, List.push_toArray, List.append_toArray, List.nil_append, List.cons_append]
  gi_wp2_with (refine ⟨trivial, ?_⟩; gi_at_call 154; refine (callsIn_wide.2 HV.out).mono ?_; rintro e w' ⟨rfl, rfl⟩)
  gi_loopw [6] (fun v wr => v = .int .i64 0 ∧ W = wr) (fun v wr => 0)
  case atStart => exact ⟨rfl, rfl⟩
  case round =>
    obtain ⟨rfl, rfl⟩ := hrel
    gi_wp2
    go_end0
    exact ⟨⟨_, rfl⟩, _, rfl, HJ.out⟩
end Go.Proofs.YtnopljanpjmbgaaGreat
namespace Go.Proofs.YtnopljanpjmbgaaGreat
open Go.RowKit Go.Shelf
set_option linter.unusedVariables false
attribute [local go_sem] Oper.semAt_some
section
variable {w w' w1 : World} {S S' : Nat → Prop} {d n : Nat} {D : Nat → SlotD} {rb : Option Nat} {lay : Lay} {p : Option Addr}
set_option maxRecDepth 100000 in
set_option maxHeartbeats 400000 in
theorem rappend_range (h : IsR w S d n D) (hn : 0 < n) (i : Int) (hi : i < 0 ∨ (n : Int) ≤ i) (A : Option Addr) (m c : Nat) :
    Calls Tryz.prog 69 #[.pointer (some ⟨d, 0, none⟩), .int .i64 i, .slice A m c] w fun e w' => e = .returned (.int .i64 3) ∧ w = w' := by
  have HC := Lib.hid (rcheck_range h hn i hi)
  clear h hi
  go_enter Tryz.func69, Tryz.ntmps69
  go_wp2_with fail
  refine HC.out.mono ?_
  rintro e w' ⟨rfl, rfl⟩
  go_wp2_with fail
  go_ret
  exact ⟨rfl, rfl⟩
set_option maxRecDepth 100000 in
set_option maxHeartbeats 400000 in
theorem rsync_range (h : IsR w S d n D) (hn : 0 < n) (i : Int) (hi : i < 0 ∨ (n : Int) ≤ i)  :
    Calls Tryz.prog 113 #[.pointer (some ⟨d, 0, none⟩), .int .i64 i] w fun e w' => e = .returned (.int .i64 3) ∧ w = w' := by
  have HC := Lib.hid (rcheck_range h hn i hi)
  clear h hi
  go_enter Tryz.func113, Tryz.ntmps113
  go_wp2_with fail
  refine HC.out.mono ?_
  rintro e w' ⟨rfl, rfl⟩
  go_wp2_with fail
  go_ret
  exact ⟨rfl, rfl⟩
set_option maxRecDepth 100000 in
set_option maxHeartbeats 400000 in
theorem rerase_range (h : IsR w S d n D) (hn : 0 < n) (i : Int) (hi : i < 0 ∨ (n : Int) ≤ i)  :
    Calls Tryz.prog 79 #[.pointer (some ⟨d, 0, none⟩), .int .i64 i] w fun e w' => e = .returned (.int .i64 3) ∧ w = w' := by
  have HC := Lib.hid (rcheck_range h hn i hi)
  clear h hi
  go_enter Tryz.func79, Tryz.ntmps79
  go_wp2_with fail
  refine HC.out.mono ?_
  rintro e w' ⟨rfl, rfl⟩
  go_wp2_with fail
  go_ret
  exact ⟨rfl, rfl⟩
set_option maxRecDepth 100000 in
set_option maxHeartbeats 400000 in
theorem rlen_range (h : IsR w S d n D) (hn : 0 < n) (i : Int) (hi : i < 0 ∨ (n : Int) ≤ i)  :
    Calls Tryz.prog 105 #[.pointer (some ⟨d, 0, none⟩), .int .i64 i] w fun e w' => e = .returned (.tuple #[.int .i64 0, .int .i64 3]) ∧ w = w' := by
  have HC := Lib.hid (rcheck_range h hn i hi)
  clear h hi
  go_enter Tryz.func105, Tryz.ntmps105
  go_wp2_with fail
  refine HC.out.mono ?_
  rintro e w' ⟨rfl, rfl⟩
  go_wp2_with fail
  go_ret2
  exact ⟨rfl, rfl⟩
set_option maxRecDepth 100000 in
set_option maxHeartbeats 400000 in
theorem rread_range (h : IsR w S d n D) (hn : 0 < n) (i : Int) (hi : i < 0 ∨ (n : Int) ≤ i) (off m : Int) :
    Calls Tryz.prog 126 #[.pointer (some ⟨d, 0, none⟩), .int .i64 i, .int .i64 off, .int .i64 m] w fun e w' => e = .returned (.tuple #[.slice none 0 0, .int .i64 3]) ∧ w = w' := by
  have HC := Lib.hid (rcheck_range h hn i hi)
  clear h hi
  go_enter Tryz.func126, Tryz.ntmps126
  go_wp2_with fail
  refine HC.out.mono ?_
  rintro e w' ⟨rfl, rfl⟩
  go_wp2_with fail
  go_ret2
  exact ⟨rfl, rfl⟩
set_option maxRecDepth 100000 in
set_option maxHeartbeats 1000000 in
theorem rcrash_bad (h : IsR w S d n D) (hn : 0 < n) (A : Option Addr) (m c : Nat) (zs : List Int) (hm : m ≤ maxLen) (hr : Reads w w.heap.size 1 A m (ints zs)) (hb : m < 1 ∨ 34 < m ∨ ∃ z ∈ zs, z < 0) :
    Calls Tryz.prog 118 #[.pointer (some ⟨d, 0, none⟩), .slice A m c] w fun e w' => e = .returned (.int .i64 2) ∧ w = w' := by
  have hlen : zs.length = m := by have := hr.1; rw [ints_length] at this; omega
  have HV := Lib.hid (rvalid h hn)
  unfold maxLen at hm
  by_cases h0 : m = 0
  · subst h0
    clear h hr hb
    go_enter Tryz.func118, Tryz.ntmps118
    go_wp2_with fail
    refine HV.out.mono ?_
    rintro e w' ⟨rfl, rfl⟩
    go_wp2_with fail
    go_ret
    exact ⟨rfl, rfl⟩
  have t1 : ((m : Int) == 0) = false := by simp; omega
  by_cases h34 : 34 < m
  · have t2 : decide (34 < (m : Int)) = true := by simp; omega
    clear h hr hb
    go_enter Tryz.func118, Tryz.ntmps118
    go_wp2_with fail
    refine HV.out.mono ?_
    rintro e w' ⟨rfl, rfl⟩
    go_wp2_with fail
    go_ret
    exact ⟨rfl, rfl⟩
  have t2 : decide (34 < (m : Int)) = false := by simp; omega
  have hm34 : m ≤ 34 := by omega
  have HN : Hid (∃ k, k < m ∧ zs.getD k 0 < 0) := by
    rcases hb with e | e | ⟨z, hz, hz2⟩
    · omega
    · omega
    · obtain ⟨k, hk, rfl⟩ := List.mem_iff_getElem.1 hz
      exact ⟨k, by omega, by rw [List.getD_eq_getElem?_getD, List.getElem?_eq_getElem hk, Option.getD_some]; exact hz2⟩
  have HC : Hid (∀ k, k < m → ∃ ad, A = some ad ∧ w.cell? (ad.add k) = some (.int .i64 (zs.getD k 0))) := fun k hk => by
    obtain ⟨ad, u, e, _, hx, hc⟩ := hr.at_ hk
    have hkz : k < zs.length := by omega
    rw [ints_at hkz] at hx
    injection hx with hx
    subst hx
    refine ⟨ad, e, ?_⟩
    rw [hc, List.getD_eq_getElem?_getD, List.getElem?_eq_getElem hkz, Option.getD_some]
  clear h hr hb hlen h0 h34
  go_enter Tryz.func118, Tryz.ntmps118
  go_wp2_with fail
  refine HV.out.mono ?_
  rintro e w' ⟨rfl, rfl⟩
  go_wp2_with fail
  go_loopg [5] m (fun q v5 wr => ∃ (j : Nat), j + q = m ∧ v5 = .int .i64 j ∧ (∀ k, k < j → 0 ≤ zs.getD k 0) ∧ w = wr)
  case atStart => exact ⟨0, by omega, rfl, fun k hk => by omega, rfl⟩
  case round =>
    obtain ⟨j, hj, rfl, hp, rfl⟩ := hrel
    have HJ := Lib.hid hj
    have HP := Lib.hid hp
    have hj' : j ≤ m := by omega
    have hlt : j < m := by
      obtain ⟨k, hk, hk2⟩ := HN.out
      by_cases e : j < m
      · exact e
      · have := hp k (by omega); omega
    obtain ⟨ad, rfl, hc⟩ := HC.out j hlt
    obtain ⟨z, hz⟩ : ∃ z, zs.getD j 0 = z := ⟨_, rfl⟩
    have HZ := Lib.hid hz
    rw [hz] at hc
    clear hj hp hz
    by_cases hneg : z < 0
    · go_wp2_with fail
      go_ret
      exact ⟨rfl, rfl⟩
    · go_wp2_with fail
      go_roundg (gk - 1)
      case measure => have := HJ.out; omega
      case rel =>
        refine ⟨j + 1, by have := HJ.out; omega, by go_num, fun k hk => ?_, rfl⟩
        by_cases e : k = j
        · subst e; rw [HZ.out]; omega
        · exact HP.out k (by omega)
set_option maxRecDepth 100000 in
set_option maxHeartbeats 4000000 in
theorem crashdisk_no (h : NoDisk w p) (A : Option Addr) (m c : Nat) :
    Calls Tryz.prog 121 #[.pointer p, .slice A m c] w fun e w' => e = .returned (.int .i64 1) ∧ Below w.heap.size w w' := by
  refine (callsIn_wide (n := 5)).1 ?_
  have hb0 : Below w.heap.size w ((w.alloc (.cells #[.pointer p] 71)).alloc (.cells #[.slice A m c] 62)) := ((Below.refl _ _).alloc (Nat.le_refl _) _).alloc (by simp) _
  have HV := Lib.hid (valid_nodisk (h.below hb0))
  have HB := Lib.hid hb0
  clear h hb0
  refine callsIn_of_wp_marks Tryz.func121 rfl trivial ?_ rfl
  simp only [Tryz.ntmps121, List.size_toArray, List.length_cons, List.length_nil, Nat.reduceAdd, Nat.reduceSub, Array.replicate_succ, Array.replicate_zero, List.push_toArray, List.append_toArray, List.nil_append, List.cons_append]
  gi_wp2_with (refine ⟨trivial, ?_⟩; gi_at_call 129; refine (callsIn_wide.2 HV.out).mono ?_; rintro e w' ⟨rfl, rfl⟩)
  exact ⟨.int .i64 1, by simp [results, Tryz.f121, go_sem], rfl, HB.out⟩
set_option maxRecDepth 100000 in
set_option maxHeartbeats 4000000 in
theorem crashdisk_bad (h : IsDisk w d rb n lay D) (hn : 0 < n) (A : Option Addr) (m c : Nat) (zs : List Int) (hm : m ≤ maxLen) (hr : Reads w w.heap.size 1 A m (ints zs)) (hb : m < 1 ∨ 34 < m ∨ ∃ z ∈ zs, z < 0) :
    Calls Tryz.prog 121 #[.pointer (some ⟨d, 0, none⟩), .slice A m c] w fun e w' => e = .returned (.int .i64 2) ∧ Below w.heap.size w w' := by
  refine (callsIn_wide (n := 5)).1 ?_
  have hb0 : Below w.heap.size w ((w.alloc (.cells #[.pointer (some ⟨d, 0, none⟩)] 71)).alloc (.cells #[.slice A m c] 62)) := ((Below.refl _ _).alloc (Nat.le_refl _) _).alloc (by simp) _
  have HV := Lib.hid (valid_disk (h.below hb0) hn)
  have HB := Lib.hid hb0
  unfold maxLen at hm
  by_cases h1 : m < 1
  · have t1 : decide ((m : Int) < 1) = true := by simp; omega
    clear h hb0 hr hb
    refine callsIn_of_wp_marks Tryz.func121 rfl trivial ?_ rfl
    simp only [Tryz.ntmps121, List.size_toArray, List.length_cons, List.length_nil, Nat.reduceAdd, Nat.reduceSub, Array.replicate_succ, Array.replicate_zero, List.push_toArray, List.append_toArray, List.nil_append, List.cons_append]
    gi_wp2_with (refine ⟨trivial, ?_⟩; gi_at_call 129; refine (callsIn_wide.2 HV.out).mono ?_; rintro e w' ⟨rfl, rfl⟩)
    refine ⟨trivial, ?_⟩
    gi_wp2
    exact ⟨.int .i64 2, by simp [results, Tryz.f121, go_sem], rfl, HB.out⟩
  have t1 : decide ((m : Int) < 1) = false := by simp; omega
  by_cases h34 : 34 < m
  · have t2 : decide (34 < (m : Int)) = true := by simp; omega
    clear h hb0 hr hb
    refine callsIn_of_wp_marks Tryz.func121 rfl trivial ?_ rfl
    simp only [Tryz.ntmps121, List.size_toArray, List.length_cons, List.length_nil, Nat.reduceAdd, Nat.reduceSub, Array.replicate_succ, Array.replicate_zero, List.push_toArray, List.append_toArray, List.nil_append, List.cons_append]
    gi_wp2_with (refine ⟨trivial, ?_⟩; gi_at_call 129; refine (callsIn_wide.2 HV.out).mono ?_; rintro e w' ⟨rfl, rfl⟩)
    refine ⟨trivial, ?_⟩
    gi_wp2
    exact ⟨.int .i64 2, by simp [results, Tryz.f121, go_sem], rfl, HB.out⟩
  have t2 : decide (34 < (m : Int)) = false := by simp; omega
  have hneg : ∃ z ∈ zs, z < 0 := by
    rcases hb with e | e | e
    · omega
    · omega
    · exact e
  have HM : Hid (∀ W, Below w.heap.size w W → Calls Tryz.prog 147 #[.slice A m c] W fun e w' => ∃ r, e = .returned (.int .i64 r) ∧ r < 0 ∧ W = w') := fun W hW => by
    refine (min_ints A m c zs W ((hr.below hW).more hW.size) (by omega) (by omega)).mono ?_
    rintro e w' ⟨r, h1, h2, h3⟩
    exact ⟨r, h1, h2.2 hneg, h3⟩
  clear h hb0 hr hb hneg
  refine callsIn_of_wp_marks Tryz.func121 rfl trivial ?_ rfl
  simp only [Tryz.ntmps121, List.size_toArray, List.length_cons, List.length_nil, Nat.reduceAdd, Nat.reduceSub, Array.replicate_succ, Array.replicate_zero, List.push_toArray, List.append_toArray, List.nil_append, List.cons_append]
  gi_wp2_with (first
    | (refine ⟨trivial, ?_⟩; gi_at_call 129; refine (callsIn_wide.2 HV.out).mono ?_; rintro e w' ⟨rfl, rfl⟩)
    | (refine ⟨trivial, ?_⟩; gi_at_call 147; refine (callsIn_wide.2 (HM.out _ HB.out)).mono ?_; rintro e w' ⟨r, rfl, hrn, rfl⟩))
  exact ⟨.int .i64 2, by simp [results, Tryz.f121, go_sem], rfl, HB.out⟩
end
end Go.Proofs.YtnopljanpjmbgaaGreat
namespace Go.Proofs.YtnopljanpjmbgaaGreat
open Go.RowKit
set_option linter.unusedVariables false
theorem bel_drewN' (w : World) (q : Nat) : Below w.heap.size w (w.drewN q) := ⟨rfl, rfl, rfl, Nat.le_refl _, fun _ _ => rfl⟩
section
variable {w w' : World} {S : Nat → Prop} {d g n : Nat} {D : Nat → SlotD} {rb : Option Nat} {lay : Lay}
theorem disk_read_ok (h : IsDisk w d rb n lay D) (hn : 0 < n) (i : Nat) (hi : i < n) (a b : Nat) (hab : a + b ≤ (D i).bytes.length) :
    Calls Tryz.prog 41 #[.pointer (some ⟨d, 0, none⟩), .int .i64 (i : Int), .int .i64 (a : Int), .int .i64 (b : Int)] w fun e w' => ∃ v, e = .returned (.tuple #[v, .int .i64 0]) ∧ w'.ownsRow w.heap.size 5 1 v b (u8s (((D i).bytes.drop a).take b)) ∧ Below w.heap.size w w' := by
  refine (disk_read h hn i a b).mono ?_
  rintro e w' ⟨v, r, rfl, hq, hb⟩
  rcases hq with ⟨s, a', b', h1, h2, h3, h4, h5, rfl, h6⟩ | ⟨s, h1, h2, h3, _⟩ | ⟨h1, _⟩
  · have e1 : i = s := by omega
    have e2 : a = a' := by omega
    have e3 : b = b' := by omega
    subst e1 e2 e3
    exact ⟨v, rfl, h6, hb⟩
  · have e1 : i = s := by omega
    subst e1
    unfold badRead at h3
    omega
  · omega
theorem disk_read_bad (h : IsDisk w d rb n lay D) (hn : 0 < n) (i : Nat) (hi : i < n) (off m : Int) (hbad : badRead (D i).bytes.length off m) :
    Calls Tryz.prog 41 #[.pointer (some ⟨d, 0, none⟩), .int .i64 (i : Int), .int .i64 off, .int .i64 m] w fun e w' => e = .returned (.tuple #[.slice none 0 0, .int .i64 3]) ∧ Below w.heap.size w w' := by
  refine (disk_read h hn i off m).mono ?_
  rintro e w' ⟨v, r, rfl, hq, hb⟩
  rcases hq with ⟨s, a', b', h1, h2, h3, h4, h5, rfl, h6⟩ | ⟨s, h1, h2, h3, rfl, rfl⟩ | ⟨h1, _⟩
  · have e1 : i = s := by omega
    subst e1
    unfold badRead at hbad
    omega
  · exact ⟨rfl, hb⟩
  · omega
theorem disk_read_range (h : IsDisk w d rb n lay D) (hn : 0 < n) (i : Int) (hi : i < 0 ∨ (n : Int) ≤ i) (off m : Int) :
    Calls Tryz.prog 41 #[.pointer (some ⟨d, 0, none⟩), .int .i64 i, .int .i64 off, .int .i64 m] w fun e w' => e = .returned (.tuple #[.slice none 0 0, .int .i64 3]) ∧ Below w.heap.size w w' := by
  refine (disk_read h hn i off m).mono ?_
  rintro e w' ⟨v, r, rfl, hq, hb⟩
  rcases hq with ⟨s, a', b', h1, h2, h3, h4, h5, rfl, h6⟩ | ⟨s, h1, h2, h3, rfl, rfl⟩ | ⟨h1, rfl, rfl⟩
  · omega
  · omega
  · exact ⟨rfl, hb⟩
theorem own_reads {base k : Nat} {v : Value} {l : List (BitVec 8)} (h : w.ownsRow base 5 1 v k (u8s l)) (hk : k ≤ 1000000) : ∃ A c, v = .slice A k c ∧ c ≤ maxLen ∧ Reads w w.heap.size 1 A k (u8s l) := by
  obtain ⟨A, c, h1, _, h2, h3⟩ := own_slice h
  exact ⟨A, c, h1, h2, h3⟩
end
end Go.Proofs.YtnopljanpjmbgaaGreat
namespace Go.Proofs.YtnopljanpjmbgaaGreat
open Go.RowKit
set_option linter.unusedVariables false
section
variable {B : Nat} {w0 w w' : World} {os : List Ob} {d n : Nat} {rb : Option Nat} {lay : Lay} {D : Nat → SlotD}
theorem Sep.diskTo (h : Sep B w0 w (diskOb d rb n lay D :: os)) {D' : Nat → SlotD} (ht : DiskTo w w' d rb n lay D') : ∃ lay', Sep B w0 w' (diskOb d rb n lay' D' :: os) := by
  obtain ⟨lay', h1, h2, h3⟩ := ht
  exact ⟨lay', h.step (a' := diskOb d rb n lay' D') h2 h1 h3⟩
theorem Sep.disk (h : Sep B w0 w (diskOb d rb n lay D :: os)) : IsDisk w d rb n lay D := h.get (.head _)
theorem Sep.dcongr (h : Sep B w0 w (diskOb d rb n lay D :: os)) {D' : Nat → SlotD} (hD : ∀ i, i < n → D' i = D i) : Sep B w0 w (diskOb d rb n lay D' :: os) :=
  h.step (a' := diskOb d rb n lay D') (Chg.refl _ _) (h.disk.congr hD) (fun _ hk => .inl hk)
theorem sep_dappend (h : Sep B w0 w (diskOb d rb n lay D :: os)) (hn : 0 < n) (i : Nat) (hi : i < n) {v : Value} {b : List (BitVec 8)} (hv : Holds w v b) :
    Calls Tryz.prog 37 #[.pointer (some ⟨d, 0, none⟩), .int .i64 (i : Int), v] w fun e w' => e = .returned (.int .i64 (appE D i b)) ∧ ∃ lay', Sep B w0 w' (diskOb d rb n lay' (appD D i b) :: os) :=
  (disk_append h.disk hn i hi v b hv).mono fun e w' ⟨h1, h2⟩ => ⟨h1, h.diskTo h2⟩
theorem sep_dsync (h : Sep B w0 w (diskOb d rb n lay D :: os)) (hn : 0 < n) (i : Nat) (hi : i < n) :
    Calls Tryz.prog 109 #[.pointer (some ⟨d, 0, none⟩), .int .i64 (i : Int)] w fun e w' => e = .returned (.int .i64 0) ∧ ∃ lay', Sep B w0 w' (diskOb d rb n lay' (syncD D i) :: os) :=
  (disk_sync h.disk hn i hi).mono fun e w' ⟨h1, h2⟩ => ⟨h1, h.diskTo h2⟩
theorem sep_derase (h : Sep B w0 w (diskOb d rb n lay D :: os)) (hn : 0 < n) (i : Nat) (hi : i < n) :
    Calls Tryz.prog 77 #[.pointer (some ⟨d, 0, none⟩), .int .i64 (i : Int)] w fun e w' => e = .returned (.int .i64 0) ∧ ∃ lay', Sep B w0 w' (diskOb d rb n lay' (eraseD D i) :: os) :=
  (disk_erase h.disk hn i hi).mono fun e w' ⟨h1, h2⟩ => ⟨h1, h.diskTo h2⟩
theorem sep_dnew (h : Sep B w0 w os) (A : Option Addr) (n c : Nat) (zs : List Int) (hr : Reads w w.heap.size 1 A n (ints zs)) (h1 : 1 ≤ n) (h2 : n ≤ 34) (hz : ∀ z ∈ zs, okSize z) :
    Calls Tryz.prog 51 #[.slice A n c] w fun e w' => ∃ d rb lay, e = .returned (.tuple #[.pointer (some ⟨d, 0, none⟩), .int .i64 0]) ∧ Sep B w0 w' (diskOb d rb n lay (newD zs) :: os) := by
  refine (newdisk_any A n c zs w hr h1 h2).mono ?_
  rintro e w' (⟨_, d, rb, lay, rfl, k1, k2, k3⟩ | ⟨⟨z, hz1, hz2⟩, _⟩)
  · exact ⟨d, rb, lay, rfl, h.add (a := diskOb d rb n lay (newD zs)) k3 k1 k2⟩
  · exact absurd (hz z hz1) hz2
end
theorem nums_new (W : World) (fr : Nat × Nat) (zs : List Int) (n : Nat) (cs : Array Value) (hn : n = zs.length) (hcs : cs = (ints zs).toArray) :
    Reads (W.alloc (.cells cs 3 fr)) (W.heap.size + 1) 1 (some ⟨W.heap.size, 0, none⟩) n (ints zs) := by
  subst hcs hn
  have := reads_news W 3 (ints zs).toArray fr zs.length (by simp [ints])
  simpa using this
/-- A disk of two slots. -/
def twoD (x y : SlotD) : Nat → SlotD := fun i => if i = 0 then x else y
theorem twoD_of {D : Nat → SlotD} {x y : SlotD} (h0 : D 0 = x) (h1 : D 1 = y) : ∀ i, i < 2 → twoD x y i = D i := by
  intro i hi
  have : i = 0 ∨ i = 1 := by omega
  rcases this with rfl | rfl
  · exact h0.symm
  · exact h1.symm
theorem strOf_lit {l : List (BitVec 8)} {a : Array UInt8} (h : (l.map fun b => UInt8.ofNat b.toNat) = a.toList) : strOf l = ⟨a⟩ := by
  apply ByteArray.ext
  apply Array.toList_inj.1
  rw [strOf_list, h]
end Go.Proofs.YtnopljanpjmbgaaGreat
namespace Go.Proofs.YtnopljanpjmbgaaGreat
open Go.RowKit
set_option linter.unusedVariables false
def appEI (n : Nat) (D : Nat → SlotD) (i : Int) (b : List (BitVec 8)) : Int := if inRange n i then appE D i.toNat b else 3
def appDI (n : Nat) (D : Nat → SlotD) (i : Int) (b : List (BitVec 8)) : Nat → SlotD := if inRange n i then appD D i.toNat b else D
def okEI (n : Nat) (i : Int) : Int := if inRange n i then 0 else 3
def syncDI (n : Nat) (D : Nat → SlotD) (i : Int) : Nat → SlotD := if inRange n i then syncD D i.toNat else D
def eraseDI (n : Nat) (D : Nat → SlotD) (i : Int) : Nat → SlotD := if inRange n i then eraseD D i.toNat else D
def okKeep (zs : List Int) : Prop := 1 ≤ zs.length ∧ zs.length ≤ 34 ∧ ∀ z ∈ zs, 0 ≤ z
instance (zs : List Int) : Decidable (okKeep zs) := by unfold okKeep; infer_instance
def crashEI (zs : List Int) : Int := if okKeep zs then 0 else 2
def crashDI (zs : List Int) (D : Nat → SlotD) : Nat → SlotD := if okKeep zs then crashD zs D else D
theorem in_or (n : Nat) (i : Int) : (∃ s : Nat, i = (s : Int) ∧ s < n ∧ inRange n i ∧ i.toNat = s) ∨ ((i < 0 ∨ (n : Int) ≤ i) ∧ ¬ inRange n i) := by
  by_cases h : inRange n i
  · obtain ⟨h1, h2⟩ := h
    exact .inl ⟨i.toNat, by omega, by omega, ⟨h1, h2⟩, rfl⟩
  · exact .inr ⟨by unfold inRange at h; omega, h⟩
theorem keep_or (zs : List Int) : okKeep zs ∨ (¬ okKeep zs ∧ (zs.length < 1 ∨ 34 < zs.length ∨ ∃ z ∈ zs, z < 0)) := by
  by_cases h : okKeep zs
  · exact .inl h
  · refine .inr ⟨h, ?_⟩
    by_cases h1 : zs.length < 1
    · exact .inl h1
    by_cases h2 : 34 < zs.length
    · exact .inr (.inl h2)
    refine .inr (.inr ?_)
    apply Classical.byContradiction
    intro hn
    exact h ⟨by omega, by omega, fun z hz => by
      apply Classical.byContradiction
      intro h3
      exact hn ⟨z, hz, by omega⟩⟩
section
variable {B : Nat} {w0 w w' : World} {os : List Ob} {x : Ob} {d g n : Nat} {rb : Option Nat} {lay : Lay} {D D' : Nat → SlotD} {S : Nat → Prop} {l : List (Nat × (Nat → SlotD))}
theorem Sep.refTo (h : Sep B w0 w (refsOb S n ((g, D) :: l) :: os)) (ht : RTo w w' S g n D') : ∃ S', Sep B w0 w' (refsOb S' n ((g, D') :: l) :: os) := by
  obtain ⟨S', h1, h2, h3, h4⟩ := ht
  obtain ⟨p1, p2, p3⟩ : (∀ p, p ∈ (g, D) :: l → IsR w S p.1 n p.2) ∧ ((g, D) :: l).Pairwise (fun (p q : Nat × (Nat → SlotD)) => p.1 ≠ q.1) ∧ CellsIn w S := h.get (.head _)
  have hg : IsR w S g n D := p1 _ (.head _)
  obtain ⟨q1, q2⟩ := List.pairwise_cons.1 p2
  refine ⟨S', h.step (a' := refsOb S' n ((g, D') :: l)) (h4.mono (fun k _ hk => .inr ⟨_, .head _, hk.symm⟩)) ⟨fun p hp => ?_, List.pairwise_cons.2 ⟨q1, q2⟩, h1.cel⟩ (fun k hk => ?_)⟩
  · rcases List.mem_cons.1 hp with rfl | hp
    · exact h1
    · have hpr := p1 p (.tail _ hp)
      have hne := q1 p hp
      refine (hpr.chg h4 (fun e => hne e.symm) (fun k hk e => hg.nd (by rw [← e]; exact hk))).more h2 (fun e => ?_) h1.cel
      rcases h3 _ e with e | e
      · exact hpr.nd e
      · have := hpr.blk_lt; omega
  · rcases hk with hk | ⟨p, hp, rfl⟩
    · rcases h3 k hk with e | e
      · exact .inl (.inl e)
      · exact .inr e
    · rcases List.mem_cons.1 hp with rfl | hp
      · exact .inl (.inr ⟨_, .head _, rfl⟩)
      · exact .inl (.inr ⟨p, .tail _ hp, rfl⟩)
theorem Sep.refTo1 (h : Sep B w0 w (x :: refsOb S n ((g, D) :: l) :: os)) (ht : RTo w w' S g n D') : ∃ S', Sep B w0 w' (x :: refsOb S' n ((g, D') :: l) :: os) := by
  obtain ⟨S', h2⟩ := (h.perm (.swap _ _ _)).refTo ht
  exact ⟨S', h2.perm (.swap _ _ _)⟩
theorem Sep.ref1 (h : Sep B w0 w (x :: refsOb S n ((g, D) :: l) :: os)) : IsR w S g n D := by
  have h' : (∀ p, p ∈ (g, D) :: l → IsR w S p.1 n p.2) ∧ _ := h.get (.tail _ (.head _))
  exact h'.1 _ (.head _)
theorem Sep.ref1nd (h : Sep B w0 w (x :: refsOb S n ((g, D) :: l) :: os)) : B ≤ g := (h.all _ (.tail _ (.head _))).2 g (.inr ⟨_, .head _, rfl⟩)
theorem sepI_append (h : Sep B w0 w (diskOb d rb n lay D :: os)) (hn : 0 < n) (i : Int) {v : Value} {b : List (BitVec 8)} (hv : Holds w v b) :
    Calls Tryz.prog 37 #[.pointer (some ⟨d, 0, none⟩), .int .i64 i, v] w fun e w' => e = .returned (.int .i64 (appEI n D i b)) ∧ ∃ lay', Sep B w0 w' (diskOb d rb n lay' (appDI n D i b) :: os) := by
  unfold appEI appDI
  rcases in_or n i with ⟨s, rfl, hs, hin, ht⟩ | ⟨ho, hno⟩
  · rw [if_pos hin, if_pos hin, ht]
    exact sep_dappend h hn s hs hv
  · rw [if_neg hno, if_neg hno]
    obtain ⟨A, m, c, rfl, _⟩ := hv
    exact (disk_append_range h.disk hn i ho A m c).mono fun e w' ⟨h1, h2⟩ => ⟨h1, lay, h.below h2⟩
theorem sepI_sync (h : Sep B w0 w (diskOb d rb n lay D :: os)) (hn : 0 < n) (i : Int) :
    Calls Tryz.prog 109 #[.pointer (some ⟨d, 0, none⟩), .int .i64 i] w fun e w' => e = .returned (.int .i64 (okEI n i)) ∧ ∃ lay', Sep B w0 w' (diskOb d rb n lay' (syncDI n D i) :: os) := by
  unfold okEI syncDI
  rcases in_or n i with ⟨s, rfl, hs, hin, ht⟩ | ⟨ho, hno⟩
  · rw [if_pos hin, if_pos hin, ht]
    exact sep_dsync h hn s hs
  · rw [if_neg hno, if_neg hno]
    exact (disk_sync_range h.disk hn i ho).mono fun e w' ⟨h1, h2⟩ => ⟨h1, lay, by rw [← h2]; exact h⟩
theorem sepI_erase (h : Sep B w0 w (diskOb d rb n lay D :: os)) (hn : 0 < n) (i : Int) :
    Calls Tryz.prog 77 #[.pointer (some ⟨d, 0, none⟩), .int .i64 i] w fun e w' => e = .returned (.int .i64 (okEI n i)) ∧ ∃ lay', Sep B w0 w' (diskOb d rb n lay' (eraseDI n D i) :: os) := by
  unfold okEI eraseDI
  rcases in_or n i with ⟨s, rfl, hs, hin, ht⟩ | ⟨ho, hno⟩
  · rw [if_pos hin, if_pos hin, ht]
    exact sep_derase h hn s hs
  · rw [if_neg hno, if_neg hno]
    exact (disk_erase_range h.disk hn i ho).mono fun e w' ⟨h1, h2⟩ => ⟨h1, lay, by rw [← h2]; exact h⟩
theorem sepI_crash (h : Sep B w0 w (diskOb d rb n lay D :: os)) (hC : AllCells os) (hn : 0 < n) (hm34 : n ≤ 65536) (A : Option Addr) (m c : Nat) (zs : List Int) (hm : m ≤ maxLen)
    (hr : ∀ X D', Sep B w0 X (diskOb d rb n lay D' :: os) → Reads X X.heap.size 1 A m (ints zs)) (hz : ∀ z ∈ zs, z ≤ 9223372036854775807) :
    Calls Tryz.prog 121 #[.pointer (some ⟨d, 0, none⟩), .slice A m c] w fun e w' => e = .returned (.int .i64 (crashEI zs)) ∧ Sep B w0 w' (diskOb d rb n lay (crashDI zs D) :: os) := by
  have hlen : zs.length = m := by have := (hr w D h).1; rw [ints_length] at this; omega
  unfold crashEI crashDI
  rcases keep_or zs with hk | ⟨hk, hb⟩
  · rw [if_pos hk, if_pos hk]
    exact sep_crashdisk h hC hn hm34 A m c zs hr (by rw [← hlen]; exact hk.1) (by rw [← hlen]; exact hk.2.1) (fun z hz' => ⟨hk.2.2 z hz', hz z hz'⟩)
  · rw [if_neg hk, if_neg hk]
    exact (crashdisk_bad h.disk hn A m c zs hm (hr w D h) (by rw [← hlen]; exact hb)).mono fun e w' ⟨h1, h2⟩ => ⟨h1, h.below h2⟩
/-! ### the document's -/
theorem rsepI_append (h : Sep B w0 w (x :: refsOb S n ((g, D) :: l) :: os)) (hn : 0 < n) (hm34 : n ≤ 65536) (i : Int) {v : Value} {b : List (BitVec 8)} (hv : Holds w v b) (hb64 : b.length ≤ 1000000) :
    Calls Tryz.prog 69 #[.pointer (some ⟨g, 0, none⟩), .int .i64 i, v] w fun e w' => e = .returned (.int .i64 (appEI n D i b)) ∧ ∃ S', Sep B w0 w' (x :: refsOb S' n ((g, appDI n D i b) :: l) :: os) := by
  unfold appEI appDI
  rcases in_or n i with ⟨s, rfl, hs, hin, ht⟩ | ⟨ho, hno⟩
  · rw [if_pos hin, if_pos hin, ht]
    exact (rappend h.ref1 hn hm34 s hs v b hv hb64).mono fun e w' ⟨h1, h2⟩ => ⟨h1, h.refTo1 h2⟩
  · rw [if_neg hno, if_neg hno]
    obtain ⟨A, m, c, rfl, _⟩ := hv
    exact (rappend_range h.ref1 hn i ho A m c).mono fun e w' ⟨h1, h2⟩ => ⟨h1, S, by rw [← h2]; exact h⟩
theorem rsepI_sync (h : Sep B w0 w (x :: refsOb S n ((g, D) :: l) :: os)) (hn : 0 < n) (hm34 : n ≤ 65536) (i : Int) :
    Calls Tryz.prog 113 #[.pointer (some ⟨g, 0, none⟩), .int .i64 i] w fun e w' => e = .returned (.int .i64 (okEI n i)) ∧ ∃ S', Sep B w0 w' (x :: refsOb S' n ((g, syncDI n D i) :: l) :: os) := by
  unfold okEI syncDI
  rcases in_or n i with ⟨s, rfl, hs, hin, ht⟩ | ⟨ho, hno⟩
  · rw [if_pos hin, if_pos hin, ht]
    exact (rsync h.ref1 hn hm34 s hs).mono fun e w' ⟨h1, h2⟩ => ⟨h1, h.refTo1 h2⟩
  · rw [if_neg hno, if_neg hno]
    exact (rsync_range h.ref1 hn i ho).mono fun e w' ⟨h1, h2⟩ => ⟨h1, S, by rw [← h2]; exact h⟩
theorem rsepI_erase (h : Sep B w0 w (x :: refsOb S n ((g, D) :: l) :: os)) (hn : 0 < n) (hm34 : n ≤ 65536) (i : Int) :
    Calls Tryz.prog 79 #[.pointer (some ⟨g, 0, none⟩), .int .i64 i] w fun e w' => e = .returned (.int .i64 (okEI n i)) ∧ ∃ S', Sep B w0 w' (x :: refsOb S' n ((g, eraseDI n D i) :: l) :: os) := by
  unfold okEI eraseDI
  rcases in_or n i with ⟨s, rfl, hs, hin, ht⟩ | ⟨ho, hno⟩
  · rw [if_pos hin, if_pos hin, ht]
    exact (rerase h.ref1 hn hm34 s hs).mono fun e w' ⟨h1, h2⟩ => ⟨h1, h.refTo1 h2⟩
  · rw [if_neg hno, if_neg hno]
    exact (rerase_range h.ref1 hn i ho).mono fun e w' ⟨h1, h2⟩ => ⟨h1, S, by rw [← h2]; exact h⟩
theorem rsepI_crash (h : Sep B w0 w (x :: refsOb S n ((g, D) :: l) :: os)) (hn : 0 < n) (hm34 : n ≤ 65536) (A : Option Addr) (m c : Nat) (zs : List Int) (hm : m ≤ maxLen)
    (hr : ∀ W, Chg (fun k => k = g) w W → Reads W W.heap.size 1 A m (ints zs)) (hz : ∀ z ∈ zs, z ≤ 9223372036854775807) :
    Calls Tryz.prog 118 #[.pointer (some ⟨g, 0, none⟩), .slice A m c] w fun e w' => e = .returned (.int .i64 (crashEI zs)) ∧ ∃ S', Sep B w0 w' (x :: refsOb S' n ((g, crashDI zs D) :: l) :: os) := by
  have hlen : zs.length = m := by have := (hr w (Chg.refl _ _)).1; rw [ints_length] at this; omega
  unfold crashEI crashDI
  rcases keep_or zs with hk | ⟨hk, hb⟩
  · rw [if_pos hk, if_pos hk]
    exact (rcrash h.ref1 hn hm34 A m c zs hr (by rw [← hlen]; exact hk.1) (by rw [← hlen]; exact hk.2.1) (fun z hz' => ⟨hk.2.2 z hz', hz z hz'⟩)).mono fun e w' ⟨h1, h2⟩ => ⟨h1, h.refTo1 h2⟩
  · rw [if_neg hk, if_neg hk]
    exact (rcrash_bad h.ref1 hn A m c zs hm (hr w (Chg.refl _ _)) (by rw [← hlen]; exact hb)).mono fun e w' ⟨h1, h2⟩ => ⟨h1, S, by rw [← h2]; exact h⟩
theorem rsep_new (h : Sep B w0 w os) (A : Option Addr) (n c : Nat) (zs : List Int) (hr : Reads w w.heap.size 1 A n (ints zs)) (h1 : 1 ≤ n) (h2 : n ≤ 34) (hz : ∀ z ∈ zs, okSize z) :
    Calls Tryz.prog 54 #[.slice A n c] w fun e w' => ∃ d S, e = .returned (.tuple #[.pointer (some ⟨d, 0, none⟩), .int .i64 0]) ∧ Sep B w0 w' (refsOb S n [(d, newD zs)] :: os) := by
  refine (rnew_any A n c zs w hr h1 h2).mono ?_
  rintro e w' (⟨_, d, S, rfl, k1, k2, k3, k4⟩ | ⟨⟨z, hz1, hz2⟩, _⟩)
  · refine ⟨d, S, rfl, h.add (a := refsOb S n [(d, newD zs)]) k4 ⟨fun p hp => ?_, List.pairwise_singleton _ _, k1.cel⟩ (fun k hk => ?_)⟩
    · rcases List.mem_singleton.1 hp with rfl
      exact k1
    · rcases hk with hk | ⟨p, hp, rfl⟩
      · exact k3 k hk
      · rcases List.mem_singleton.1 hp with rfl
        exact k2
  · exact absurd (hz z hz1) hz2
end
end Go.Proofs.YtnopljanpjmbgaaGreat

/-
  The document's disk in memory (drumlinref10.Disk): its block, its row of slots, their bytes; what was written once stays; The walks of the document's disk (drumlinref10.Disk): valid, check, set, Slots, Len, Durable, Room; The walks of the document's disk (drumlinref10.Disk): Append, Sync, Erase; The walks of the document's disk (drumlinref10.Disk): Read, Copy, Used, Same; The document's New (drumlinref10); The document's disk's Crash (drumlinref10); The laws' used: the slots that a disk's Used yields, as a list; The document's disk (drumlinref10.Disk): slots that there are not; a disk's Crash and the document's that are refused; The walks of the disk laws' alike and whole: a disk and the document's that hold the same show the same; A disk's methods among other objects of a call's own; A disk's methods and the document's at any slot, among other objects of a call's own.
-/
import Derived.Test.YtnopljanpjmbgaaMC
import Derived.Test.YtnopljanpjmbgaaMA
import Derived.Deep.QuietTactic
import Derived.BigQuiet
import Derived.Test.YtnopljanpjmbgaaMD
import Derived.Deep.RegionLaw
import Derived.Deep.RegionHeld3
import Derived.StillTailTactics
namespace Go.Proofs.Ytnopljanpjmbgaa
open Go.RowKit
set_option linter.unusedVariables false
/-- Where each slot's bytes lie: address and capacity. -/
abbrev Bts := Nat → Option Addr × Nat
def rcell (D : Nat → SlotD) (bs : Bts) (q : Nat) : Value :=
  if q % 3 = 0 then .int .i64 ((D (q / 3)).size : Int) else if q % 3 = 1 then .slice (bs (q / 3)).1 (D (q / 3)).bytes.length (bs (q / 3)).2 else .int .i64 ((D (q / 3)).dur : Int)
theorem rcell_0 (D : Nat → SlotD) (bs : Bts) (i : Nat) : rcell D bs (i * 3) = .int .i64 ((D i).size : Int) := by
  unfold rcell
  rw [if_pos (by omega), show i * 3 / 3 = i by omega]
theorem rcell_1 (D : Nat → SlotD) (bs : Bts) (i : Nat) : rcell D bs (i * 3 + 1) = .slice (bs i).1 (D i).bytes.length (bs i).2 := by
  unfold rcell
  rw [if_neg (by omega), if_pos (by omega), show (i * 3 + 1) / 3 = i by omega]
theorem rcell_2 (D : Nat → SlotD) (bs : Bts) (i : Nat) : rcell D bs (i * 3 + 2) = .int .i64 ((D i).dur : Int) := by
  unfold rcell
  rw [if_neg (by omega), if_neg (by omega), show (i * 3 + 2) / 3 = i by omega]
theorem rcell_upd (D : Nat → SlotD) (bs : Bts) (i : Nat) (x : SlotD) (b : Option Addr × Nat) {q : Nat} (h : q / 3 ≠ i) : rcell (updF D i x) (updF bs i b) q = rcell D bs q := by
  unfold rcell
  rw [updF_other _ _ h, updF_other _ _ h]
def rrow (D : Nat → SlotD) (bs : Bts) (n : Nat) : List Value := (List.range (n * 3)).map (rcell D bs)
theorem rrow_length (D : Nat → SlotD) (bs : Bts) (n : Nat) : (rrow D bs n).length = n * 3 := by simp [rrow]
theorem rrow_at {D : Nat → SlotD} {bs : Bts} {n q : Nat} (h : q < n * 3) : (rrow D bs n)[q]? = some (rcell D bs q) := by simp [rrow, h]
theorem rrow_one (D : Nat → SlotD) (bs : Bts) (n : Nat) : ∀ u ∈ rrow D bs n, u.oneCell' = true := by
  intro u hu
  simp only [rrow, List.mem_map] at hu
  obtain ⟨q, _, rfl⟩ := hu
  unfold rcell
  split
  · rfl
  · split <;> rfl
theorem rrow_snoc (D : Nat → SlotD) (bs : Bts) (n : Nat) : rrow D bs n ++ [.int .i64 ((D n).size : Int), .slice (bs n).1 (D n).bytes.length (bs n).2, .int .i64 ((D n).dur : Int)] = rrow D bs (n + 1) := by
  unfold rrow
  rw [show (n + 1) * 3 = n * 3 + 1 + 1 + 1 by omega]
  simp only [List.range_succ, List.map_append, List.map_cons, List.map_nil, List.append_assoc, List.cons_append, List.nil_append]
  rw [rcell_0, rcell_1, rcell_2]
theorem rrow_set (D : Nat → SlotD) (bs : Bts) {n i : Nat} (h : i < n) (x : SlotD) (b : Option Addr × Nat) :
    (((rrow D bs n).set (i * 3) (.int .i64 (x.size : Int))).set (i * 3 + 1) (.slice b.1 x.bytes.length b.2)).set (i * 3 + 2) (.int .i64 (x.dur : Int)) = rrow (updF D i x) (updF bs i b) n := by
  apply List.ext_getElem?
  intro q
  by_cases hq : q < n * 3
  · rw [rrow_at hq]
    by_cases h2 : q = i * 3 + 2
    · subst h2
      rw [List.getElem?_set_self (by simpa [rrow_length] using hq), rcell_2, updF_same]
    rw [List.getElem?_set_ne (by omega)]
    by_cases h1 : q = i * 3 + 1
    · subst h1
      rw [List.getElem?_set_self (by simpa [rrow_length] using hq), rcell_1, updF_same, updF_same]
    rw [List.getElem?_set_ne (by omega)]
    by_cases h0 : q = i * 3
    · subst h0
      rw [List.getElem?_set_self (by simpa [rrow_length] using hq), rcell_0, updF_same]
    rw [List.getElem?_set_ne (by omega), rrow_at hq, rcell_upd _ _ _ _ _ (by omega)]
  · rw [List.getElem?_eq_none (by simp [rrow_length]; omega), List.getElem?_eq_none (by rw [rrow_length]; omega)]
/-- Bytes that lie in the blocks S. -/
def BytesAt (w : World) (S : Nat → Prop) (A : Option Addr) (c : Nat) (l : List (BitVec 8)) : Prop :=
  l.length ≤ c ∧ c ≤ maxLen ∧ (0 < l.length → ∃ ad, A = some ad ∧ S ad.block ∧ ∀ j u, (u8s l)[j]? = some u → w.cell? (ad.add j) = some u)
theorem BytesAt.reads {w : World} {S : Nat → Prop} {A : Option Addr} {c : Nat} {l : List (BitVec 8)} (h : BytesAt w S A c l) (hS : ∀ k, S k → k < w.heap.size) : Reads w w.heap.size 1 A l.length (u8s l) :=
  ⟨by rw [u8s_length]; omega, fun hn => by
    obtain ⟨ad, e, h1, h2⟩ := h.2.2 hn
    exact ⟨ad, e, hS _ h1, h2⟩⟩
theorem BytesAt.chg {F : Nat → Prop} {w w' : World} {S : Nat → Prop} {A : Option Addr} {c : Nat} {l : List (BitVec 8)} (h : BytesAt w S A c l) (hS : ∀ k, S k → k < w.heap.size) (hc : Chg F w w') (hF : ∀ k, S k → ¬ F k) : BytesAt w' S A c l :=
  ⟨h.1, h.2.1, fun hn => by
    obtain ⟨ad, e, h1, h2⟩ := h.2.2 hn
    exact ⟨ad, e, h1, fun j u hu => (World.cell?_of_block (hc.block (ad.add j).block (by rw [block_of_add]; exact hS _ h1) (by rw [block_of_add]; exact hF _ h1))).trans (h2 j u hu)⟩⟩
theorem BytesAt.more {w : World} {S S' : Nat → Prop} {A : Option Addr} {c : Nat} {l : List (BitVec 8)} (h : BytesAt w S A c l) (hS : ∀ k, S k → S' k) : BytesAt w S' A c l :=
  ⟨h.1, h.2.1, fun hn => by
    obtain ⟨ad, e, h1, h2⟩ := h.2.2 hn
    exact ⟨ad, e, hS _ h1, h2⟩⟩
theorem BytesAt.take {w : World} {S : Nat → Prop} {A : Option Addr} {c : Nat} {l : List (BitVec 8)} (h : BytesAt w S A c l) (k : Nat) : BytesAt w S A c (l.take k) :=
  ⟨Nat.le_trans (by rw [List.length_take]; omega) h.1, h.2.1, fun hn => by
    rw [List.length_take] at hn
    obtain ⟨ad, e, h1, h2⟩ := h.2.2 (by omega)
    refine ⟨ad, e, h1, fun j u hu => h2 j u ?_⟩
    rw [u8s_take] at hu
    rw [← hu, List.getElem?_take_of_lt (by
      have := (List.getElem?_eq_some_iff.1 hu).1
      rw [List.length_take] at this; omega)]⟩
theorem BytesAt.nil_ (w : World) (S : Nat → Prop) : BytesAt w S none 0 [] := ⟨Nat.le_refl _, Nat.zero_le _, fun h => absurd h (by simp)⟩
/-- Bytes of a call's own row. -/
theorem BytesAt.own {w : World} {S : Nat → Prop} {base : Nat} {A : Option Addr} {c : Nat} {l : List (BitVec 8)} (h : w.ownsRow base 5 1 (.slice A l.length c) l.length (u8s l)) (hS : ∀ k, (Value.slice A l.length c).ownBlock = some k → S k) : BytesAt w S A c l := by
  obtain ⟨A', c', e, h1, h2, hr⟩ := own_slice h
  injection e with e1 e2 e3
  subst e1 e3
  refine ⟨h1, h2, fun hn => ?_⟩
  obtain ⟨g, cap, e, hg⟩ := h.form hn
  obtain ⟨ad, e2, h4, h5⟩ := hr.2 hn
  subst e2
  injection e with e3 e4 e5
  injection e3 with e3
  subst e3
  exact ⟨_, rfl, hS _ (by simp [Value.ownBlock]), h5⟩
theorem add_one_addr (a : Addr) : a.add 1 = ⟨a.block, a.off + 1, none⟩ := by unfold Addr.add; split <;> simp_all
theorem add_two_addr (a : Addr) : a.add 2 = ⟨a.block, a.off + 2, none⟩ := by unfold Addr.add; split <;> simp_all
/-- These blocks are made of cells. -/
def CellsIn (w : World) (S : Nat → Prop) : Prop := ∀ k, S k → ∃ ob, w.heap[k]? = some ob ∧ ob.isCells = true
theorem CellsIn.lt {w : World} {S : Nat → Prop} (h : CellsIn w S) : ∀ k, S k → k < w.heap.size := fun k hk => by
  obtain ⟨ob, h1, _⟩ := h k hk
  exact (Array.getElem?_eq_some_iff.1 h1).1
theorem CellsIn.chg {w w' : World} {S F : Nat → Prop} (h : CellsIn w S) (hc : Chg F w w') (hF : ∀ k, S k → ¬ F k) : CellsIn w' S := fun k hk => by
  obtain ⟨ob, h1, h2⟩ := h k hk
  exact ⟨ob, (hc.block k (h.lt k hk) (hF k hk)).trans h1, h2⟩
theorem CellsIn.below {w w' : World} {S : Nat → Prop} (h : CellsIn w S) (hb : Below w.heap.size w w') : CellsIn w' S := h.chg (F := fun _ => False) (Chg.of_below hb) (fun _ _ h => h)
theorem own_cells {w : World} {base n size : Nat} {e : TypeId} {v : Value} {xs : List Value} (h : w.ownsRow base e size v n xs) : CellsIn w (fun k => v.ownBlock = some k) := fun k hk => cellOb_row e size v n xs w (own_base h (fun _ _ => Nat.zero_le _)) k hk
theorem CellsIn.or {w : World} {S T : Nat → Prop} (h : CellsIn w S) (k : CellsIn w T) : CellsIn w (fun q => S q ∨ T q) := fun q hq => hq.elim (h q) (k q)
section
variable {w w' w1 : World} {S S' : Nat → Prop} {d n : Nat} {D : Nat → SlotD}
end
end Go.Proofs.Ytnopljanpjmbgaa
namespace Go.Proofs.Ytnopljanpjmbgaa
open Go.RowKit
set_option linter.unusedVariables false
section
variable {w w' w1 : World} {S S' : Nat → Prop} {d n : Nat} {D : Nat → SlotD}
theorem made0b (w : World) : (w.alloc (.cells #[] 5)).ownsRow w.heap.size 5 1 (.slice (some ⟨w.heap.size, 0, none⟩) 0 0) 0 [] := World.ownsRow_made w #[] 0 (Nat.le_refl _) (by unfold maxLen; omega) (by simp)
end
end Go.Proofs.Ytnopljanpjmbgaa
namespace Go.Proofs.Ytnopljanpjmbgaa
open Go.RowKit
set_option linter.unusedVariables false
section
variable {w w' w1 : World} {S S' : Nat → Prop} {d n : Nat} {D : Nat → SlotD}
end
end Go.Proofs.Ytnopljanpjmbgaa
namespace Go.Proofs.Ytnopljanpjmbgaa
open Go.RowKit
set_option linter.unusedVariables false
section
variable {w w' w1 : World} {S S' : Nat → Prop} {d n : Nat} {D : Nat → SlotD}
theorem int_info : (Try.prog.info? 3).map (fun i => (i.zero, i.size, i.bytes)) = some (some (.int .i64 0), 1, 8) := by kernel_rfl
theorem ints_append (l m : List Int) : ints l ++ ints m = ints (l ++ m) := by simp [ints]
def nats (l : List Nat) : List Int := l.map (fun (i : Nat) => (i : Int))
theorem ints_one' (l : List Int) : ∀ u ∈ ints l, u.oneCell' = true := by
  intro u hu
  simp only [ints, List.mem_map] at hu
  obtain ⟨z, _, rfl⟩ := hu
  rfl
end
end Go.Proofs.Ytnopljanpjmbgaa
namespace Go.Proofs.Ytnopljanpjmbgaa
open Go.RowKit
set_option linter.unusedVariables false
theorem rrow_congr {D : Nat → SlotD} {bs bs' : Bts} {n : Nat} (h : ∀ i, i < n → bs' i = bs i) : rrow D bs' n = rrow D bs n := by
  unfold rrow
  apply List.map_congr_left
  intro q hq
  have : q / 3 < n := by have := List.mem_range.1 hq; omega
  unfold rcell
  rw [h _ this]
theorem reads_newx (W : World) (t : TypeId) (cs : Array Value) (fr : Nat × Nat) (n k : Nat) (hn : n * k = cs.size) :
    Reads (W.alloc (.cells cs t fr)) (W.heap.size + 1) k (some ⟨W.heap.size, 0, none⟩) n cs.toList := by
  refine ⟨by simp [hn], fun _ => ⟨_, rfl, by simp, fun j u hu => ?_⟩⟩
  rw [add_zero_addr, cell_of_row _ _ j _ t fr (heap_alloc_new W _)]
  simpa using hu
theorem one_three (z : Int) : ∀ u ∈ [Value.int .i64 z, .slice none 0 0, .int .i64 0], u.oneCell' = true := by
  intro u hu
  simp only [List.mem_cons, List.not_mem_nil, or_false] at hu
  rcases hu with rfl | rfl | rfl <;> rfl
end Go.Proofs.Ytnopljanpjmbgaa
namespace Go.Proofs.Ytnopljanpjmbgaa
open Go.RowKit
set_option linter.unusedVariables false
/-- The first j slots have crashed. -/
def crTo (zs : List Int) (D : Nat → SlotD) (j : Nat) : Nat → SlotD := fun i => if i < j then crashS (keepAt zs i) (D i) else D i
theorem crTo_zero (zs : List Int) (D : Nat → SlotD) : crTo zs D 0 = D := by funext i; simp [crTo]
theorem crTo_succ (zs : List Int) (D : Nat → SlotD) (j : Nat) : crTo zs D (j + 1) = updF (crTo zs D j) j (crashS (keepAt zs j) (D j)) := by
  funext i
  show (if i < j + 1 then crashS (keepAt zs i) (D i) else D i) = if i = j then crashS (keepAt zs j) (D j) else (if i < j then crashS (keepAt zs i) (D i) else D i)
  by_cases e : i = j
  · subst e; simp
  · rw [if_neg e]
    by_cases e2 : i < j
    · rw [if_pos (by omega), if_pos e2]
    · rw [if_neg (by omega), if_neg e2]
section
variable {w w' w1 : World} {S S' : Nat → Prop} {d n : Nat} {D : Nat → SlotD}
end
end Go.Proofs.Ytnopljanpjmbgaa
namespace Go.Proofs.Ytnopljanpjmbgaa
open Go.RowKit Go.Shelf
set_option linter.unusedVariables false
attribute [local go_sem] Oper.semAt_some
theorem wpListIn_append_any {F : Fence} {n : Nat} {P : Program} (w : World) {ops : Array Oper} {rest : List Oper} {o : Oper} {a : Act} {Q : Exit → Act → World → Prop} (hg : o.guard = none) (s x : Operand) (t : TypeId)
    (ho : o.op = .call { callee := .builtin .append, args := #[s, x], argTypes := #[t, t] })
    (base : Nat) (e : TypeId) (i : TypeInfo) (z : Value) (size bytes : Nat) (ht : P.underlying t = some (.slice e)) (hi : P.info? e = some i) (hz : i.zero = some z)
    (hsize : i.size = size) (hby : i.bytes = bytes) (hzs : z.cells.size = size) (hsz : 0 < size)
    (v : Value) (k : Nat) (xs : List Value) (hs : a.eval s = v) (hown : w.ownsRow base e size v k xs)
    (B : Nat) (A : Option Addr) (m c : Nat) (news : List Value) (hx : a.eval x = .slice A m c) (hr : Reads w B size A m news) (h1 : ∀ u ∈ news, u.oneCell' = true)
    (h63 : k + m ≤ maxLen) (hbytes : (k + m) * bytes ≤ 140737488355328) (hbase : base ≤ w.heap.size)
    (hK : ∀ v' w', w'.ownsRow base e size v' (k + m) (xs ++ news) → w.grownBy w' v.ownBlock → (v'.ownBlock = v.ownBlock ∨ v'.ownBlock = some w.heap.size) → wpListIn F n P ops Q rest (a.put o.dst v') w') : wpListIn F n P ops Q (o :: rest) a w := by
  refine wpListIn_plain hg fun K hK' => ?_
  obtain ⟨v', w', hrun, r1, r2, r3⟩ := run_append_any (P := P) w base t o.type e i z size bytes ht hi hz hsize hby hzs hsz v k xs hown B A m c news hr h1 h63 hbytes hbase
  unfold Oper.wpIn
  refine ⟨?_, ?_⟩
  · simp [Oper.about, ho, resolve, Target.leads, Sem.run_pure]
  · rw [Oper.semAt_plain F _ _ (by rw [ho]; intro c hc'; cases hc')]
    simp [execOp, ho, resolve, invoke, builtin, hs, hx, hrun, Result.andThen]
    exact hK' _ _ (hK v' w' r1 r2 r3)
/-- What the loop over Used keeps: the two boxes, the row so far. -/
def UsedI (B : Nat) (w : World) (p : Option Addr) (pre : List Nat) (W : World) : Prop :=
  ∃ A c, Sep B w W [blkOb (B + 1) 46 #[.pointer p], blkOb B 38 #[.slice A pre.length c], rowOb 3 1 (.slice A pre.length c) pre.length (ints (nats pre))]
theorem usedI_cells (B : Nat) (p : Option Addr) (pre : List Nat) (A : Option Addr) (c : Nat) : AllCells [blkOb (B + 1) 46 #[.pointer p], blkOb B 38 #[.slice A pre.length c], rowOb 3 1 (.slice A pre.length c) pre.length (ints (nats pre))] :=
  AllCells.cons (cellOb_blk _ _ _) (AllCells.cons (cellOb_blk _ _ _) (AllCells.cons (cellOb_row _ _ _ _ _) AllCells.nil))
theorem ownFrom_used {B B' : Nat} (w : World) (p : Option Addr) (hB : B ≤ B') : OwnFrom B' (UsedI B w p) := fun s W W' row h hg hr => by
  obtain ⟨A, c, hs⟩ := h
  exact ⟨A, c, hs.others (usedI_cells B p s A c) hg (fun r e => ⟨by have := (hr r e).1; omega, (hr r e).2⟩)⟩
set_option maxRecDepth 100000 in
set_option maxHeartbeats 4000000 in
theorem used1_vis_no (m : Nat) (hm : 1 ≤ m) (Bn : Nat) (p : Option Addr) (I : List Nat → World → Prop) (w : World)
    (hI : ∀ pre W, I pre W → W.cell? ⟨Bn, 0, none⟩ = some (.pointer p) ∧ NoDisk W p) :
    SeqVis Fence.wide m Try.prog 104 #[.pointer (some ⟨Bn, 0, none⟩)] (fun x : Nat => #[Value.int .i64 (x : Int)]) I (fun _ _ => False) (fun xs => xs = []) w := by
  rintro l J W hbW hJI hY h0
  obtain ⟨hBn, hd0⟩ := hI _ _ (hJI _ _ h0)
  have HV := Lib.hid (slots_nodisk hd0)
  have HJ := Lib.hid h0
  clear hd0 hI hJI hY h0
  refine callsIn_of_wp Try.func104 rfl trivial ?_ rfl
  simp only [Try.ntmps104, List.size_toArray, List.length_cons, List.length_nil, Nat.reduceAdd, Nat.reduceSub, Array.replicate_succ, Array.replicate_zero, List.push_toArray, List.append_toArray, List.nil_append, List.cons_append]
  gi_wp2_with (refine ⟨trivial, ?_⟩; gi_at_call 105; refine (callsIn_wide.2 HV.out).mono ?_; rintro e w' ⟨rfl, rfl⟩)
  gi_loopw [6] (fun v wr => v = .int .i64 0 ∧ W = wr) (fun v wr => 0)
  case atStart => exact ⟨rfl, rfl⟩
  case round =>
    obtain ⟨rfl, rfl⟩ := hrel
    gi_wp2
    go_end0
    exact ⟨⟨_, rfl⟩, _, rfl, HJ.out⟩
end Go.Proofs.Ytnopljanpjmbgaa
namespace Go.Proofs.Ytnopljanpjmbgaa
open Go.RowKit Go.Shelf
set_option linter.unusedVariables false
attribute [local go_sem] Oper.semAt_some
section
variable {w w' w1 : World} {S S' : Nat → Prop} {d n : Nat} {D : Nat → SlotD} {rb : Option Nat} {lay : Lay} {p : Option Addr}
set_option maxRecDepth 100000 in
set_option maxHeartbeats 4000000 in
theorem crashdisk_no (h : NoDisk w p) (A : Option Addr) (m c : Nat) :
    Calls Try.prog 61 #[.pointer p, .slice A m c] w fun e w' => e = .returned (.int .i64 1) ∧ Below w.heap.size w w' := by
  refine (callsIn_wide (n := 5)).1 ?_
  have hb0 : Below w.heap.size w ((w.alloc (.cells #[.pointer p] 46)).alloc (.cells #[.slice A m c] 38)) := ((Below.refl _ _).alloc (Nat.le_refl _) _).alloc (by simp) _
  have HV := Lib.hid (valid_nodisk (h.below hb0))
  have HB := Lib.hid hb0
  clear h hb0
  refine callsIn_of_wp_marks Try.func61 rfl trivial ?_ rfl
  simp only [Try.ntmps61, List.size_toArray, List.length_cons, List.length_nil, Nat.reduceAdd, Nat.reduceSub, Array.replicate_succ, Array.replicate_zero, List.push_toArray, List.append_toArray, List.nil_append, List.cons_append]
  gi_wp2_with (refine ⟨trivial, ?_⟩; gi_at_call 89; refine (callsIn_wide.2 HV.out).mono ?_; rintro e w' ⟨rfl, rfl⟩)
  exact ⟨.int .i64 1, by simp [results, Try.f61, go_sem], rfl, HB.out⟩
set_option maxRecDepth 100000 in
set_option maxHeartbeats 4000000 in
theorem crashdisk_bad (h : IsDisk w d rb n lay D) (hn : 0 < n) (A : Option Addr) (m c : Nat) (zs : List Int) (hm : m ≤ maxLen) (hr : Reads w w.heap.size 1 A m (ints zs)) (hb : m < 1 ∨ 34 < m ∨ ∃ z ∈ zs, z < 0) :
    Calls Try.prog 61 #[.pointer (some ⟨d, 0, none⟩), .slice A m c] w fun e w' => e = .returned (.int .i64 2) ∧ Below w.heap.size w w' := by
  refine (callsIn_wide (n := 5)).1 ?_
  have hb0 : Below w.heap.size w ((w.alloc (.cells #[.pointer (some ⟨d, 0, none⟩)] 46)).alloc (.cells #[.slice A m c] 38)) := ((Below.refl _ _).alloc (Nat.le_refl _) _).alloc (by simp) _
  have HV := Lib.hid (valid_disk (h.below hb0) hn)
  have HB := Lib.hid hb0
  unfold maxLen at hm
  by_cases h1 : m < 1
  · have t1 : decide ((m : Int) < 1) = true := by simp; omega
    clear h hb0 hr hb
    refine callsIn_of_wp_marks Try.func61 rfl trivial ?_ rfl
    simp only [Try.ntmps61, List.size_toArray, List.length_cons, List.length_nil, Nat.reduceAdd, Nat.reduceSub, Array.replicate_succ, Array.replicate_zero, List.push_toArray, List.append_toArray, List.nil_append, List.cons_append]
    gi_wp2_with (refine ⟨trivial, ?_⟩; gi_at_call 89; refine (callsIn_wide.2 HV.out).mono ?_; rintro e w' ⟨rfl, rfl⟩)
    refine ⟨trivial, ?_⟩
    gi_wp2
    exact ⟨.int .i64 2, by simp [results, Try.f61, go_sem], rfl, HB.out⟩
  have t1 : decide ((m : Int) < 1) = false := by simp; omega
  by_cases h34 : 34 < m
  · have t2 : decide (34 < (m : Int)) = true := by simp; omega
    clear h hb0 hr hb
    refine callsIn_of_wp_marks Try.func61 rfl trivial ?_ rfl
    simp only [Try.ntmps61, List.size_toArray, List.length_cons, List.length_nil, Nat.reduceAdd, Nat.reduceSub, Array.replicate_succ, Array.replicate_zero, List.push_toArray, List.append_toArray, List.nil_append, List.cons_append]
    gi_wp2_with (refine ⟨trivial, ?_⟩; gi_at_call 89; refine (callsIn_wide.2 HV.out).mono ?_; rintro e w' ⟨rfl, rfl⟩)
    refine ⟨trivial, ?_⟩
    gi_wp2
    exact ⟨.int .i64 2, by simp [results, Try.f61, go_sem], rfl, HB.out⟩
  have t2 : decide (34 < (m : Int)) = false := by simp; omega
  have hneg : ∃ z ∈ zs, z < 0 := by
    rcases hb with e | e | e
    · omega
    · omega
    · exact e
  have HM : Hid (∀ W, Below w.heap.size w W → Calls Try.prog 90 #[.slice A m c] W fun e w' => ∃ r, e = .returned (.int .i64 r) ∧ r < 0 ∧ W = w') := fun W hW => by
    refine (min_ints A m c zs W ((hr.below hW).more hW.size) (by omega) (by omega)).mono ?_
    rintro e w' ⟨r, h1, h2, h3⟩
    exact ⟨r, h1, h2.2 hneg, h3⟩
  clear h hb0 hr hb hneg
  refine callsIn_of_wp_marks Try.func61 rfl trivial ?_ rfl
  simp only [Try.ntmps61, List.size_toArray, List.length_cons, List.length_nil, Nat.reduceAdd, Nat.reduceSub, Array.replicate_succ, Array.replicate_zero, List.push_toArray, List.append_toArray, List.nil_append, List.cons_append]
  gi_wp2_with (first
    | (refine ⟨trivial, ?_⟩; gi_at_call 89; refine (callsIn_wide.2 HV.out).mono ?_; rintro e w' ⟨rfl, rfl⟩)
    | (refine ⟨trivial, ?_⟩; gi_at_call 90; refine (callsIn_wide.2 (HM.out _ HB.out)).mono ?_; rintro e w' ⟨r, rfl, hrn, rfl⟩))
  exact ⟨.int .i64 2, by simp [results, Try.f61, go_sem], rfl, HB.out⟩
end
end Go.Proofs.Ytnopljanpjmbgaa
namespace Go.Proofs.Ytnopljanpjmbgaa
open Go.RowKit
set_option linter.unusedVariables false
theorem bel_drewN' (w : World) (q : Nat) : Below w.heap.size w (w.drewN q) := ⟨rfl, rfl, rfl, Nat.le_refl _, fun _ _ => rfl⟩
section
variable {w w' : World} {S : Nat → Prop} {d g n : Nat} {D : Nat → SlotD} {rb : Option Nat} {lay : Lay}
theorem disk_read_ok (h : IsDisk w d rb n lay D) (hn : 0 < n) (i : Nat) (hi : i < n) (a b : Nat) (hab : a + b ≤ (D i).bytes.length) :
    Calls Try.prog 41 #[.pointer (some ⟨d, 0, none⟩), .int .i64 (i : Int), .int .i64 (a : Int), .int .i64 (b : Int)] w fun e w' => ∃ v, e = .returned (.tuple #[v, .int .i64 0]) ∧ w'.ownsRow w.heap.size 5 1 v b (u8s (((D i).bytes.drop a).take b)) ∧ Below w.heap.size w w' := by
  refine (disk_read h hn i a b).mono ?_
  rintro e w' ⟨v, r, rfl, hq, hb⟩
  rcases hq with ⟨s, a', b', h1, h2, h3, h4, h5, rfl, h6⟩ | ⟨s, h1, h2, h3, _⟩ | ⟨h1, _⟩
  · have e1 : i = s := by omega
    have e2 : a = a' := by omega
    have e3 : b = b' := by omega
    subst e1 e2 e3
    exact ⟨v, rfl, h6, hb⟩
  · have e1 : i = s := by omega
    subst e1
    unfold badRead at h3
    omega
  · omega
theorem disk_read_bad (h : IsDisk w d rb n lay D) (hn : 0 < n) (i : Nat) (hi : i < n) (off m : Int) (hbad : badRead (D i).bytes.length off m) :
    Calls Try.prog 41 #[.pointer (some ⟨d, 0, none⟩), .int .i64 (i : Int), .int .i64 off, .int .i64 m] w fun e w' => e = .returned (.tuple #[.slice none 0 0, .int .i64 3]) ∧ Below w.heap.size w w' := by
  refine (disk_read h hn i off m).mono ?_
  rintro e w' ⟨v, r, rfl, hq, hb⟩
  rcases hq with ⟨s, a', b', h1, h2, h3, h4, h5, rfl, h6⟩ | ⟨s, h1, h2, h3, rfl, rfl⟩ | ⟨h1, _⟩
  · have e1 : i = s := by omega
    subst e1
    unfold badRead at hbad
    omega
  · exact ⟨rfl, hb⟩
  · omega
theorem disk_read_range (h : IsDisk w d rb n lay D) (hn : 0 < n) (i : Int) (hi : i < 0 ∨ (n : Int) ≤ i) (off m : Int) :
    Calls Try.prog 41 #[.pointer (some ⟨d, 0, none⟩), .int .i64 i, .int .i64 off, .int .i64 m] w fun e w' => e = .returned (.tuple #[.slice none 0 0, .int .i64 3]) ∧ Below w.heap.size w w' := by
  refine (disk_read h hn i off m).mono ?_
  rintro e w' ⟨v, r, rfl, hq, hb⟩
  rcases hq with ⟨s, a', b', h1, h2, h3, h4, h5, rfl, h6⟩ | ⟨s, h1, h2, h3, rfl, rfl⟩ | ⟨h1, rfl, rfl⟩
  · omega
  · omega
  · exact ⟨rfl, hb⟩
theorem own_reads {base k : Nat} {v : Value} {l : List (BitVec 8)} (h : w.ownsRow base 5 1 v k (u8s l)) (hk : k ≤ 1000000) : ∃ A c, v = .slice A k c ∧ c ≤ maxLen ∧ Reads w w.heap.size 1 A k (u8s l) := by
  obtain ⟨A, c, h1, _, h2, h3⟩ := own_slice h
  exact ⟨A, c, h1, h2, h3⟩
end
end Go.Proofs.Ytnopljanpjmbgaa
namespace Go.Proofs.Ytnopljanpjmbgaa
open Go.RowKit
set_option linter.unusedVariables false
section
variable {B : Nat} {w0 w w' : World} {os : List Ob} {d n : Nat} {rb : Option Nat} {lay : Lay} {D : Nat → SlotD}
theorem Sep.diskTo (h : Sep B w0 w (diskOb d rb n lay D :: os)) {D' : Nat → SlotD} (ht : DiskTo w w' d rb n lay D') : ∃ lay', Sep B w0 w' (diskOb d rb n lay' D' :: os) := by
  obtain ⟨lay', h1, h2, h3⟩ := ht
  exact ⟨lay', h.step (a' := diskOb d rb n lay' D') h2 h1 h3⟩
theorem Sep.disk (h : Sep B w0 w (diskOb d rb n lay D :: os)) : IsDisk w d rb n lay D := h.get (.head _)
theorem Sep.dcongr (h : Sep B w0 w (diskOb d rb n lay D :: os)) {D' : Nat → SlotD} (hD : ∀ i, i < n → D' i = D i) : Sep B w0 w (diskOb d rb n lay D' :: os) :=
  h.step (a' := diskOb d rb n lay D') (Chg.refl _ _) (h.disk.congr hD) (fun _ hk => .inl hk)
theorem sep_dappend (h : Sep B w0 w (diskOb d rb n lay D :: os)) (hn : 0 < n) (i : Nat) (hi : i < n) {v : Value} {b : List (BitVec 8)} (hv : Holds w v b) :
    Calls Try.prog 48 #[.pointer (some ⟨d, 0, none⟩), .int .i64 (i : Int), v] w fun e w' => e = .returned (.int .i64 (appE D i b)) ∧ ∃ lay', Sep B w0 w' (diskOb d rb n lay' (appD D i b) :: os) :=
  (disk_append h.disk hn i hi v b hv).mono fun e w' ⟨h1, h2⟩ => ⟨h1, h.diskTo h2⟩
theorem sep_dsync (h : Sep B w0 w (diskOb d rb n lay D :: os)) (hn : 0 < n) (i : Nat) (hi : i < n) :
    Calls Try.prog 57 #[.pointer (some ⟨d, 0, none⟩), .int .i64 (i : Int)] w fun e w' => e = .returned (.int .i64 0) ∧ ∃ lay', Sep B w0 w' (diskOb d rb n lay' (syncD D i) :: os) :=
  (disk_sync h.disk hn i hi).mono fun e w' ⟨h1, h2⟩ => ⟨h1, h.diskTo h2⟩
theorem sep_derase (h : Sep B w0 w (diskOb d rb n lay D :: os)) (hn : 0 < n) (i : Nat) (hi : i < n) :
    Calls Try.prog 44 #[.pointer (some ⟨d, 0, none⟩), .int .i64 (i : Int)] w fun e w' => e = .returned (.int .i64 0) ∧ ∃ lay', Sep B w0 w' (diskOb d rb n lay' (eraseD D i) :: os) :=
  (disk_erase h.disk hn i hi).mono fun e w' ⟨h1, h2⟩ => ⟨h1, h.diskTo h2⟩
theorem sep_dnew (h : Sep B w0 w os) (A : Option Addr) (n c : Nat) (zs : List Int) (hr : Reads w w.heap.size 1 A n (ints zs)) (h1 : 1 ≤ n) (h2 : n ≤ 34) (hz : ∀ z ∈ zs, okSize z) :
    Calls Try.prog 37 #[.slice A n c] w fun e w' => ∃ d rb lay, e = .returned (.tuple #[.pointer (some ⟨d, 0, none⟩), .int .i64 0]) ∧ Sep B w0 w' (diskOb d rb n lay (newD zs) :: os) := by
  refine (newdisk_any A n c zs w hr h1 h2).mono ?_
  rintro e w' (⟨_, d, rb, lay, rfl, k1, k2, k3⟩ | ⟨⟨z, hz1, hz2⟩, _⟩)
  · exact ⟨d, rb, lay, rfl, h.add (a := diskOb d rb n lay (newD zs)) k3 k1 k2⟩
  · exact absurd (hz z hz1) hz2
end
theorem nums_new (W : World) (fr : Nat × Nat) (zs : List Int) (n : Nat) (cs : Array Value) (hn : n = zs.length) (hcs : cs = (ints zs).toArray) :
    Reads (W.alloc (.cells cs 3 fr)) (W.heap.size + 1) 1 (some ⟨W.heap.size, 0, none⟩) n (ints zs) := by
  subst hcs hn
  have := reads_news W 3 (ints zs).toArray fr zs.length (by simp [ints])
  simpa using this
/-- A disk of two slots. -/
def twoD (x y : SlotD) : Nat → SlotD := fun i => if i = 0 then x else y
theorem twoD_of {D : Nat → SlotD} {x y : SlotD} (h0 : D 0 = x) (h1 : D 1 = y) : ∀ i, i < 2 → twoD x y i = D i := by
  intro i hi
  have : i = 0 ∨ i = 1 := by omega
  rcases this with rfl | rfl
  · exact h0.symm
  · exact h1.symm
theorem strOf_lit {l : List (BitVec 8)} {a : Array UInt8} (h : (l.map fun b => UInt8.ofNat b.toNat) = a.toList) : strOf l = ⟨a⟩ := by
  apply ByteArray.ext
  apply Array.toList_inj.1
  rw [strOf_list, h]
end Go.Proofs.Ytnopljanpjmbgaa
namespace Go.Proofs.Ytnopljanpjmbgaa
open Go.RowKit
set_option linter.unusedVariables false
def appEI (n : Nat) (D : Nat → SlotD) (i : Int) (b : List (BitVec 8)) : Int := if inRange n i then appE D i.toNat b else 3
def appDI (n : Nat) (D : Nat → SlotD) (i : Int) (b : List (BitVec 8)) : Nat → SlotD := if inRange n i then appD D i.toNat b else D
def okEI (n : Nat) (i : Int) : Int := if inRange n i then 0 else 3
def syncDI (n : Nat) (D : Nat → SlotD) (i : Int) : Nat → SlotD := if inRange n i then syncD D i.toNat else D
def eraseDI (n : Nat) (D : Nat → SlotD) (i : Int) : Nat → SlotD := if inRange n i then eraseD D i.toNat else D
def okKeep (zs : List Int) : Prop := 1 ≤ zs.length ∧ zs.length ≤ 34 ∧ ∀ z ∈ zs, 0 ≤ z
instance (zs : List Int) : Decidable (okKeep zs) := by unfold okKeep; infer_instance
def crashEI (zs : List Int) : Int := if okKeep zs then 0 else 2
def crashDI (zs : List Int) (D : Nat → SlotD) : Nat → SlotD := if okKeep zs then crashD zs D else D
theorem in_or (n : Nat) (i : Int) : (∃ s : Nat, i = (s : Int) ∧ s < n ∧ inRange n i ∧ i.toNat = s) ∨ ((i < 0 ∨ (n : Int) ≤ i) ∧ ¬ inRange n i) := by
  by_cases h : inRange n i
  · obtain ⟨h1, h2⟩ := h
    exact .inl ⟨i.toNat, by omega, by omega, ⟨h1, h2⟩, rfl⟩
  · exact .inr ⟨by unfold inRange at h; omega, h⟩
theorem keep_or (zs : List Int) : okKeep zs ∨ (¬ okKeep zs ∧ (zs.length < 1 ∨ 34 < zs.length ∨ ∃ z ∈ zs, z < 0)) := by
  by_cases h : okKeep zs
  · exact .inl h
  · refine .inr ⟨h, ?_⟩
    by_cases h1 : zs.length < 1
    · exact .inl h1
    by_cases h2 : 34 < zs.length
    · exact .inr (.inl h2)
    refine .inr (.inr ?_)
    apply Classical.byContradiction
    intro hn
    exact h ⟨by omega, by omega, fun z hz => by
      apply Classical.byContradiction
      intro h3
      exact hn ⟨z, hz, by omega⟩⟩
section
variable {B : Nat} {w0 w w' : World} {os : List Ob} {x : Ob} {d g n : Nat} {rb : Option Nat} {lay : Lay} {D D' : Nat → SlotD} {S : Nat → Prop} {l : List (Nat × (Nat → SlotD))}
theorem sepI_append (h : Sep B w0 w (diskOb d rb n lay D :: os)) (hn : 0 < n) (i : Int) {v : Value} {b : List (BitVec 8)} (hv : Holds w v b) :
    Calls Try.prog 48 #[.pointer (some ⟨d, 0, none⟩), .int .i64 i, v] w fun e w' => e = .returned (.int .i64 (appEI n D i b)) ∧ ∃ lay', Sep B w0 w' (diskOb d rb n lay' (appDI n D i b) :: os) := by
  unfold appEI appDI
  rcases in_or n i with ⟨s, rfl, hs, hin, ht⟩ | ⟨ho, hno⟩
  · rw [if_pos hin, if_pos hin, ht]
    exact sep_dappend h hn s hs hv
  · rw [if_neg hno, if_neg hno]
    obtain ⟨A, m, c, rfl, _⟩ := hv
    exact (disk_append_range h.disk hn i ho A m c).mono fun e w' ⟨h1, h2⟩ => ⟨h1, lay, h.below h2⟩
theorem sepI_sync (h : Sep B w0 w (diskOb d rb n lay D :: os)) (hn : 0 < n) (i : Int) :
    Calls Try.prog 57 #[.pointer (some ⟨d, 0, none⟩), .int .i64 i] w fun e w' => e = .returned (.int .i64 (okEI n i)) ∧ ∃ lay', Sep B w0 w' (diskOb d rb n lay' (syncDI n D i) :: os) := by
  unfold okEI syncDI
  rcases in_or n i with ⟨s, rfl, hs, hin, ht⟩ | ⟨ho, hno⟩
  · rw [if_pos hin, if_pos hin, ht]
    exact sep_dsync h hn s hs
  · rw [if_neg hno, if_neg hno]
    exact (disk_sync_range h.disk hn i ho).mono fun e w' ⟨h1, h2⟩ => ⟨h1, lay, by rw [← h2]; exact h⟩
theorem sepI_erase (h : Sep B w0 w (diskOb d rb n lay D :: os)) (hn : 0 < n) (i : Int) :
    Calls Try.prog 44 #[.pointer (some ⟨d, 0, none⟩), .int .i64 i] w fun e w' => e = .returned (.int .i64 (okEI n i)) ∧ ∃ lay', Sep B w0 w' (diskOb d rb n lay' (eraseDI n D i) :: os) := by
  unfold okEI eraseDI
  rcases in_or n i with ⟨s, rfl, hs, hin, ht⟩ | ⟨ho, hno⟩
  · rw [if_pos hin, if_pos hin, ht]
    exact sep_derase h hn s hs
  · rw [if_neg hno, if_neg hno]
    exact (disk_erase_range h.disk hn i ho).mono fun e w' ⟨h1, h2⟩ => ⟨h1, lay, by rw [← h2]; exact h⟩
theorem sepI_crash (h : Sep B w0 w (diskOb d rb n lay D :: os)) (hC : AllCells os) (hn : 0 < n) (hm34 : n ≤ 65536) (A : Option Addr) (m c : Nat) (zs : List Int) (hm : m ≤ maxLen)
    (hr : ∀ X D', Sep B w0 X (diskOb d rb n lay D' :: os) → Reads X X.heap.size 1 A m (ints zs)) (hz : ∀ z ∈ zs, z ≤ 9223372036854775807) :
    Calls Try.prog 61 #[.pointer (some ⟨d, 0, none⟩), .slice A m c] w fun e w' => e = .returned (.int .i64 (crashEI zs)) ∧ Sep B w0 w' (diskOb d rb n lay (crashDI zs D) :: os) := by
  have hlen : zs.length = m := by have := (hr w D h).1; rw [ints_length] at this; omega
  unfold crashEI crashDI
  rcases keep_or zs with hk | ⟨hk, hb⟩
  · rw [if_pos hk, if_pos hk]
    exact sep_crashdisk h hC hn hm34 A m c zs hr (by rw [← hlen]; exact hk.1) (by rw [← hlen]; exact hk.2.1) (fun z hz' => ⟨hk.2.2 z hz', hz z hz'⟩)
  · rw [if_neg hk, if_neg hk]
    exact (crashdisk_bad h.disk hn A m c zs hm (hr w D h) (by rw [← hlen]; exact hb)).mono fun e w' ⟨h1, h2⟩ => ⟨h1, h.below h2⟩
/-! ### the document's -/
end
end Go.Proofs.Ytnopljanpjmbgaa

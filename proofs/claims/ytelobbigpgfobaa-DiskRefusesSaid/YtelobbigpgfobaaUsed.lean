/-
  The laws' used: the slots that a disk's Used yields, as a list. Condition: the disk is as New makes it, or is none.
-/
import Derived.Test.YtelobbigpgfobaaDisk9
import Derived.Test.YtelobbigpgfobaaRdisk4
namespace Go.Proofs.Ytelobbigpgfobaa
open Go.RowKit Go.Shelf
set_option linter.unusedVariables false
attribute [local go_sem] Oper.semAt_some
theorem wpListIn_append_any {F : Fence} {n : Nat} {P : Program} (w : World) {ops : Array Oper} {rest : List Oper} {o : Oper} {a : Act} {Q : Exit → Act → World → Prop} (hg : o.guard = none) (s x : Operand) (t : TypeId)
    (ho : o.op = .call { callee := .builtin .append, args := #[s, x], argTypes := #[t, t] })
    (base : Nat) (e : TypeId) (i : TypeInfo) (z : Value) (size bytes : Nat) (ht : P.underlying t = some (.slice e)) (hi : P.info? e = some i) (hz : i.zero = some z)
    (hsize : i.size = size) (hby : i.bytes = bytes) (hzs : z.cells.size = size) (hsz : 0 < size)
    (v : Value) (k : Nat) (xs : List Value) (hs : a.eval s = v) (hown : w.ownsRow base e size v k xs)
    (B : Nat) (A : Option Addr) (m c : Nat) (news : List Value) (hx : a.eval x = .slice A m c) (hr : Reads w B size A m news) (h1 : ∀ u ∈ news, u.oneCell' = true)
    (h63 : k + m ≤ maxLen) (hbytes : (k + m) * bytes ≤ 140737488355328) (hbase : base ≤ w.heap.size)
    (hK : ∀ v' w', w'.ownsRow base e size v' (k + m) (xs ++ news) → w.grownBy w' v.ownBlock → (v'.ownBlock = v.ownBlock ∨ v'.ownBlock = some w.heap.size) → wpListIn F n P ops Q rest (a.put o.dst v') w') : wpListIn F n P ops Q (o :: rest) a w := by
  refine wpListIn_plain hg fun K hK' => ?_
  obtain ⟨v', w', hrun, r1, r2, r3⟩ := run_append_any (P := P) w base t o.type e i z size bytes ht hi hz hsize hby hzs hsz v k xs hown B A m c news hr h1 h63 hbytes hbase
  unfold Oper.wpIn
  refine ⟨?_, ?_⟩
  · simp [Oper.about, ho, resolve, Target.leads, Sem.run_pure]
  · rw [Oper.semAt_plain F _ _ (by rw [ho]; intro c hc'; cases hc')]
    simp [execOp, ho, resolve, invoke, builtin, hs, hx, hrun, Result.andThen]
    exact hK' _ _ (hK v' w' r1 r2 r3)
set_option maxRecDepth 100000 in
set_option maxHeartbeats 400000 in
theorem yields_any (F : Nat) (c : Array Value) (w : World) :
    Calls Try.prog 64 #[.func (.func F) #[] c] w fun e w' => e = .returned (.func (.func F) #[] c) ∧ w = w' := by
  have hq : ∀ W, (binOp .eql 80 (.func (.func F) #[] c) .nilFunc).run Try.prog W = .ok (.bool false) W := fun _ => by kernel_rfl
  go_enter Try.func64, Try.ntmps64
  go_wp2_with fail
  go_ret
  exact ⟨rfl, rfl⟩
/-- What the loop over Used keeps: the two boxes, the row so far. -/
def UsedI (B : Nat) (w : World) (p : Option Addr) (pre : List Nat) (W : World) : Prop :=
  ∃ A c, Sep B w W [blkOb (B + 1) 30 #[.pointer p], blkOb B 32 #[.slice A pre.length c], rowOb 3 1 (.slice A pre.length c) pre.length (ints (nats pre))]
theorem usedI_cells (B : Nat) (p : Option Addr) (pre : List Nat) (A : Option Addr) (c : Nat) : AllCells [blkOb (B + 1) 30 #[.pointer p], blkOb B 32 #[.slice A pre.length c], rowOb 3 1 (.slice A pre.length c) pre.length (ints (nats pre))] :=
  AllCells.cons (cellOb_blk _ _ _) (AllCells.cons (cellOb_blk _ _ _) (AllCells.cons (cellOb_row _ _ _ _ _) AllCells.nil))
theorem ownFrom_used {B B' : Nat} (w : World) (p : Option Addr) (hB : B ≤ B') : OwnFrom B' (UsedI B w p) := fun s W W' row h hg hr => by
  obtain ⟨A, c, hs⟩ := h
  exact ⟨A, c, hs.others (usedI_cells B p s A c) hg (fun r e => ⟨by have := (hr r e).1; omega, (hr r e).2⟩)⟩
set_option maxRecDepth 100000 in
set_option maxHeartbeats 8000000 in
theorem used_law (d n : Nat) (rb : Option Nat) (lay : Lay) (D : Nat → SlotD) (w : World) (h : IsDisk w d rb n lay D) (hn : 0 < n) (hm34 : n ≤ 65536) :
    Calls Try.prog 34 #[.pointer (some ⟨d, 0, none⟩)] w fun e w' => ∃ v, e = .returned v ∧ w'.ownsRow w.heap.size 3 1 v (usedTo D n).length (ints (nats (usedTo D n))) ∧ Below w.heap.size w w' := by
  refine (callsIn_wide (n := 5)).1 ?_
  obtain ⟨i0, hi0, hz0, hz1, hz2⟩ := info_parts int_info
  have HD := Lib.hid h
  clear h
  obtain ⟨W0, hW0⟩ : ∃ W0 : World, W0 = (w.alloc (.cells #[.slice none 0 0] 32)).alloc (.cells #[.pointer (some ⟨d, 0, none⟩)] 30) := ⟨_, rfl⟩
  have hs0 : W0.heap.size = w.heap.size + 2 := by rw [hW0]; simp
  have hb0 : Below w.heap.size w W0 := by rw [hW0]; exact ((Below.refl _ _).alloc (Nat.le_refl _) _).alloc (by simp) _
  have H0 : Hid (UsedI w.heap.size w (some ⟨d, 0, none⟩) [] W0) := by
    refine ⟨none, 0, ?_⟩
    rw [hW0]
    have k0 : Sep w.heap.size w w [rowOb 3 1 (.slice none 0 0) 0 (ints (nats []))] :=
      (Sep.start w).add (a := rowOb 3 1 (.slice none 0 0) 0 (ints (nats []))) (Below.refl _ _) (World.ownsRow_nil _ _ _ _) (fun k hk => by
        have : (Value.slice none 0 0).ownBlock = some k := hk
        simp [Value.ownBlock] at this)
    exact (k0.newBlk w.heap.size _ _ rfl).newBlk (w.heap.size + 1) _ _ (by simp)
  have HI : Hid (∀ pre W, UsedI w.heap.size w (some ⟨d, 0, none⟩) pre W → W.cell? ⟨w.heap.size + 1, 0, none⟩ = some (.pointer (some ⟨d, 0, none⟩)) ∧ ∃ lay D', IsDisk W d rb n lay D' ∧ ∀ i, i < n → i ∉ pre → (D' i).bytes = (D i).bytes) := fun pre W hI => by
    obtain ⟨A, c, hs⟩ := hI
    have x1 : Blk W (w.heap.size + 1) 30 #[.pointer (some ⟨d, 0, none⟩)] := hs.get (.head _)
    exact ⟨x1.cell 0, lay, D, HD.out.below hs.bel, fun _ _ _ => rfl⟩
  refine callsIn_of_wp_marks Try.func34 rfl trivial ?_ rfl
  simp only [Try.ntmps34, List.size_toArray, List.length_cons, List.length_nil, Nat.reduceAdd, Nat.reduceSub, Array.replicate_succ, Array.replicate_zero, List.push_toArray, List.append_toArray, List.nil_append, List.cons_append]
  gi_wp2_with (first
    | (refine ⟨trivial, ?_⟩; gi_at_call 51; refine (callsIn_wide.2 (used_any _ _)).mono ?_; rintro e w' ⟨rfl, rfl⟩)
    | (refine ⟨trivial, ?_⟩; gi_at_call 64; refine (callsIn_wide.2 (yields_any _ _ _)).mono ?_; rintro e w' ⟨rfl, rfl⟩))
  rw [← hW0]
  clear hW0
  refine wpIn_rangeFunc_vis rfl (by omega) (gf := 68) (lb := #[.pointer (some ⟨w.heap.size + 1, 0, none⟩)]) rfl trivial (enters_of Try.func68 (by kernel_rfl) rfl)
    (UsedI w.heap.size w (some ⟨d, 0, none⟩)) (used1_vis 4 (by omega) (w.heap.size + 1) d n rb D hn hm34 _ W0 HI.out) (fun _ => rfl) (ownFrom_used w _ (by omega)) H0.out
    (fun x => { tmps := #[.pointer (some ⟨d, 0, none⟩), undef, .slice none 0 0, .pointer (some ⟨w.heap.size, 0, none⟩), .int .i64 (x : Int), .pointer (some ⟨d, 0, none⟩), .func (.func 68) #[] #[.pointer (some ⟨w.heap.size + 1, 0, none⟩)], .func (.func 68) #[] #[.pointer (some ⟨w.heap.size + 1, 0, none⟩)], .int .i64 (x : Int), undef, undef, undef, undef, undef], defers := [] }) ?assign ?body ?done
  case assign =>
    intro l x W K hK
    gi_wp2
    exact hK
  case body =>
    rintro l pre x W ⟨A, c, hs⟩ ⟨hpre, hxn, hpos⟩
    have x2 : Blk W w.heap.size 32 #[.slice A pre.length c] := hs.get (.tail _ (.head _))
    have x3 : W.ownsRow 0 3 1 (.slice A pre.length c) pre.length (ints (nats pre)) := hs.get (.tail _ (.tail _ (.head _)))
    have q2 : W.cell? ⟨w.heap.size, 0, none⟩ = some (.slice A pre.length c) := x2.cell 0
    have f2 := x2.frozen 0
    have hple : pre.length ≤ n := by
      rw [hpre]
      have := usedTo_length D x
      omega
    obtain ⟨A', c', e, k1, k2, _⟩ := own_slice x3
    injection e with e1 e2 e3
    subst e1 e3
    clear e2
    have HX3 := Lib.hid x3
    have HX2 := Lib.hid x2
    have HS := Lib.hid hs
    have hlt2 : w.heap.size < W.heap.size := x2.lt
    have HN : Hid (Reads (W.alloc (.cells #[.int .i64 (x : Int)] 3)) (W.heap.size + 1) 1 (some ⟨W.heap.size, 0, none⟩) 1 [.int .i64 (x : Int)]) := reads_news W 3 #[.int .i64 (x : Int)] (0, 0) 1 rfl
    have HNE : Hid ((Value.slice A pre.length c).ownBlock ≠ some w.heap.size) := fun e => by
      have := (List.pairwise_cons.1 (List.pairwise_cons.1 hs.apart).2).1 (rowOb 3 1 (.slice A pre.length c) pre.length (ints (nats pre))) (.head _) w.heap.size rfl
      exact this e
    unfold maxLen at k2
    clear hs x2 x3 hpre hpos
    gi_wp2_with (refine wpListIn_append_any _ rfl (.tmp 9) (.tmp 11) _ rfl 0 3 i0 _ 1 8 Try.underlying32 hi0 hz0 hz1 hz2 rfl (by omega) (.slice A pre.length c) pre.length _ rfl
                   (HX3.out.alloc _) _ _ 1 1 _ rfl HN.out (by intro u hu; rcases List.mem_singleton.1 hu with rfl; rfl) (by simp only [maxLen]; omega) (by omega) (Nat.zero_le _) ?_
                 intro v1 w4 hown1 hg1 hat1
                 obtain ⟨A5, c5, rfl, hA5, hc5, hr5⟩ := own_slice hown1
                 have HG1 := Lib.hid hg1
                 have HO1 := Lib.hid hown1
                 have HA1 := Lib.hid hat1
                 have c4 : w4.cell? ⟨w.heap.size, 0, none⟩ = some (.slice A pre.length c) := (World.cell?_of_block (hg1.block w.heap.size (by simp; omega) (fun e => HNE.out e.symm))).trans ((World.cell?_alloc_lt _ _ _ hlt2).trans q2)
                 have f4 : w4.frozen? ⟨w.heap.size, 0, none⟩ = false := (World.frozen?_of_block (hg1.block w.heap.size (by simp; omega) (fun e => HNE.out e.symm))).trans ((World.frozen?_of_block (Below.heap_alloc _ _ _ hlt2)).trans f2)
                 clear hown1 hg1 hat1 hr5)
    have hc4 : Chg (fun k => (Value.slice A pre.length c).ownBlock = some k ∨ k = w.heap.size) W (w4.setCell ⟨w.heap.size, 0, none⟩ (.slice A5 (pre.length + 1) c5)) :=
      ((Chg.of_below (F := fun k => (Value.slice A pre.length c).ownBlock = some k ∨ k = w.heap.size) ((Below.refl W.heap.size W).alloc (Nat.le_refl _) _)).trans ((Chg.refl _ _).grown HG1.out (fun q hq => .inl hq)) (fun k hk h => .inl h)).setCell (p := ⟨w.heap.size, 0, none⟩) (.inl (.inr rfl)) _
    have hcr : Chg (fun k => (Value.slice A pre.length c).ownBlock = some k) W w4 :=
      (Chg.of_below (F := fun k => (Value.slice A pre.length c).ownBlock = some k) ((Below.refl W.heap.size W).alloc (Nat.le_refl _) _)).trans ((Chg.refl _ _).grown HG1.out (fun q hq => .inl hq)) (fun k hk h => h)
    have hA : ∀ k, (Value.slice A5 (pre.length + 1) c5).ownBlock = some k → (Value.slice A pre.length c).ownBlock = some k ∨ W.heap.size ≤ k := fun k hk => by
      rcases HA1.out with e | e
      · exact .inl (e ▸ hk)
      · rw [e] at hk
        injection hk with hk
        exact .inr (by rw [← hk]; simp)
    have hl : (pre ++ [x]).length = pre.length + 1 := by simp
    refine ⟨keepsOthers_chg hc4 (fun k hk => ?_), A5, c5, ?_⟩
    · rcases hk with hk | rfl
      · exact cellOb_row _ _ _ _ _ W HX3.out k hk
      · exact ⟨_, HX2.out, rfl⟩
    · rw [hl]
      have s1 : Sep w.heap.size w w4 [rowOb 3 1 (.slice A5 (pre.length + 1) c5) (pre.length + 1) (ints (nats (pre ++ [x]))), blkOb (w.heap.size + 1) 30 #[.pointer (some ⟨d, 0, none⟩)], blkOb w.heap.size 32 #[.slice A pre.length c]] := by
        refine (HS.out.perm (((List.Perm.swap _ _ _).cons _).trans (.swap _ _ _))).step (a' := rowOb 3 1 (.slice A5 (pre.length + 1) c5) (pre.length + 1) (ints (nats (pre ++ [x])))) hcr ?_ hA
        have := HO1.out
        rw [show [Value.int .i64 (x : Int)] = ints (nats [x]) from rfl, ints_append] at this
        show w4.ownsRow _ _ _ _ _ _
        rw [show nats (pre ++ [x]) = nats pre ++ nats [x] from by simp [nats]]
        exact this
      have s2 := (s1.perm (List.Perm.trans (((List.Perm.swap _ _ _).cons _)) (.swap _ _ _))).setBlk 0 (.slice A5 (pre.length + 1) c5)
      exact s2.perm (((List.Perm.swap _ _ _).cons _).trans (.swap _ _ _))
  case done =>
    rintro D9 xs W hD9 rfl ⟨A, c, hs⟩ hK
    have x2 : Blk W w.heap.size 32 #[.slice A (usedTo D n).length c] := hs.get (.tail _ (.head _))
    have q2 : W.cell? ⟨w.heap.size, 0, none⟩ = some (.slice A (usedTo D n).length c) := x2.cell 0
    have HS := Lib.hid hs
    have HK9 := Lib.hid hK
    have HDW := Lib.hid hD9
    clear hs hK hD9 x2
    gi_wp2
    refine ⟨by simp, .inl ⟨_, _, rfl, run_takeDeferred HK9.out, ?_⟩⟩
    have h5 := Sep.others (usedI_cells w.heap.size (some ⟨d, 0, none⟩) (usedTo D n) A c) HS.out (grownBy_putObj' W D9 (.deferred none)) (fun r e => by cases e; exact ⟨by have := HDW.out; omega, _, HK9.out, rfl⟩)
    have h6 : (W.putObj D9 (.deferred none)).ownsRow 0 3 1 (.slice A (usedTo D n).length c) (usedTo D n).length (ints (nats (usedTo D n))) := h5.get (.tail _ (.tail _ (.head _)))
    exact ⟨_, by simp [results, Try.f34, go_sem], _, rfl, own_base h6 (h5.all _ (.tail _ (.tail _ (.head _)))).2, h5.bel⟩
set_option maxRecDepth 100000 in
set_option maxHeartbeats 4000000 in
theorem used1_vis_no (m : Nat) (hm : 1 ≤ m) (Bn : Nat) (p : Option Addr) (I : List Nat → World → Prop) (w : World)
    (hI : ∀ pre W, I pre W → W.cell? ⟨Bn, 0, none⟩ = some (.pointer p) ∧ NoDisk W p) :
    SeqVis Fence.wide m Try.prog 68 #[.pointer (some ⟨Bn, 0, none⟩)] (fun x : Nat => #[Value.int .i64 (x : Int)]) I (fun _ _ => False) (fun xs => xs = []) w := by
  rintro l J W hbW hJI hY h0
  obtain ⟨hBn, hd0⟩ := hI _ _ (hJI _ _ h0)
  have HV := Lib.hid (slots_nodisk hd0)
  have HJ := Lib.hid h0
  clear hd0 hI hJI hY h0
  refine callsIn_of_wp Try.func68 rfl trivial ?_ rfl
  simp only [Try.ntmps68, List.size_toArray, List.length_cons, List.length_nil, Nat.reduceAdd, Nat.reduceSub, Array.replicate_succ, Array.replicate_zero, List.push_toArray, List.append_toArray, List.nil_append, List.cons_append]
  gi_wp2_with (refine ⟨trivial, ?_⟩; gi_at_call 33; refine (callsIn_wide.2 HV.out).mono ?_; rintro e w' ⟨rfl, rfl⟩)
  gi_loopw [6] (fun v wr => v = .int .i64 0 ∧ W = wr) (fun v wr => 0)
  case atStart => exact ⟨rfl, rfl⟩
  case round =>
    obtain ⟨rfl, rfl⟩ := hrel
    gi_wp2
    go_end0
    exact ⟨⟨_, rfl⟩, _, rfl, HJ.out⟩
set_option maxRecDepth 100000 in
set_option maxHeartbeats 8000000 in
theorem used_law_no (p : Option Addr) (w : World) (h : NoDisk w p) :
    Calls Try.prog 34 #[.pointer p] w fun e w' => ∃ A c, e = .returned (.slice A 0 c) ∧ c ≤ maxLen ∧ Below w.heap.size w w' := by
  refine (callsIn_wide (n := 5)).1 ?_
  obtain ⟨i0, hi0, hz0, hz1, hz2⟩ := info_parts int_info
  have HD := Lib.hid h
  clear h
  obtain ⟨W0, hW0⟩ : ∃ W0 : World, W0 = (w.alloc (.cells #[.slice none 0 0] 32)).alloc (.cells #[.pointer p] 30) := ⟨_, rfl⟩
  have hs0 : W0.heap.size = w.heap.size + 2 := by rw [hW0]; simp
  have hb0 : Below w.heap.size w W0 := by rw [hW0]; exact ((Below.refl _ _).alloc (Nat.le_refl _) _).alloc (by simp) _
  have H0 : Hid (UsedI w.heap.size w p [] W0) := by
    refine ⟨none, 0, ?_⟩
    rw [hW0]
    have k0 : Sep w.heap.size w w [rowOb 3 1 (.slice none 0 0) 0 (ints (nats []))] :=
      (Sep.start w).add (a := rowOb 3 1 (.slice none 0 0) 0 (ints (nats []))) (Below.refl _ _) (World.ownsRow_nil _ _ _ _) (fun k hk => by
        have : (Value.slice none 0 0).ownBlock = some k := hk
        simp [Value.ownBlock] at this)
    exact (k0.newBlk w.heap.size _ _ rfl).newBlk (w.heap.size + 1) _ _ (by simp)
  have HI : Hid (∀ pre W, UsedI w.heap.size w p pre W → W.cell? ⟨w.heap.size + 1, 0, none⟩ = some (.pointer p) ∧ NoDisk W p) := fun pre W hI => by
    obtain ⟨A, c, hs⟩ := hI
    have x1 : Blk W (w.heap.size + 1) 30 #[.pointer p] := hs.get (.head _)
    exact ⟨x1.cell 0, HD.out.below hs.bel⟩
  refine callsIn_of_wp_marks Try.func34 rfl trivial ?_ rfl
  simp only [Try.ntmps34, List.size_toArray, List.length_cons, List.length_nil, Nat.reduceAdd, Nat.reduceSub, Array.replicate_succ, Array.replicate_zero, List.push_toArray, List.append_toArray, List.nil_append, List.cons_append]
  gi_wp2_with (first
    | (refine ⟨trivial, ?_⟩; gi_at_call 51; refine (callsIn_wide.2 (used_any _ _)).mono ?_; rintro e w' ⟨rfl, rfl⟩)
    | (refine ⟨trivial, ?_⟩; gi_at_call 64; refine (callsIn_wide.2 (yields_any _ _ _)).mono ?_; rintro e w' ⟨rfl, rfl⟩))
  rw [← hW0]
  clear hW0
  refine wpIn_rangeFunc_vis rfl (by omega) (gf := 68) (lb := #[.pointer (some ⟨w.heap.size + 1, 0, none⟩)]) rfl trivial (enters_of Try.func68 (by kernel_rfl) rfl)
    (UsedI w.heap.size w p) (used1_vis_no 4 (by omega) (w.heap.size + 1) p _ W0 HI.out) (fun _ => rfl) (ownFrom_used w _ (by omega)) H0.out
    (fun x => { tmps := #[.pointer p, undef, .slice none 0 0, .pointer (some ⟨w.heap.size, 0, none⟩), .int .i64 (x : Int), .pointer p, .func (.func 68) #[] #[.pointer (some ⟨w.heap.size + 1, 0, none⟩)], .func (.func 68) #[] #[.pointer (some ⟨w.heap.size + 1, 0, none⟩)], .int .i64 (x : Int), undef, undef, undef, undef, undef], defers := [] }) ?assign ?body ?done
  case assign =>
    intro l x W K hK
    gi_wp2
    exact hK
  case body =>
    rintro l pre x W _ hf
    exact hf.elim
  case done =>
    rintro D9 xs W hD9 rfl ⟨A, c, hs⟩ hK
    have x2 : Blk W w.heap.size 32 #[.slice A 0 c] := hs.get (.tail _ (.head _))
    have q2 : W.cell? ⟨w.heap.size, 0, none⟩ = some (.slice A 0 c) := x2.cell 0
    have HS := Lib.hid hs
    have HK9 := Lib.hid hK
    have HDW := Lib.hid hD9
    clear hs hK hD9 x2
    gi_wp2
    refine ⟨by simp, .inl ⟨_, _, rfl, run_takeDeferred HK9.out, ?_⟩⟩
    have h5 := Sep.others (usedI_cells w.heap.size p [] A c) HS.out (grownBy_putObj' W D9 (.deferred none)) (fun r e => by cases e; exact ⟨by have := HDW.out; omega, _, HK9.out, rfl⟩)
    obtain ⟨A', c', e', _, hc, _⟩ := own_slice (show W.ownsRow 0 3 1 (.slice A 0 c) 0 (ints (nats [])) from HS.out.get (.tail _ (.tail _ (.head _))))
    injection e' with _ _ e3
    subst e3
    exact ⟨.slice A 0 c, by simp [results, Try.f34, go_sem], A, c, rfl, hc, h5.bel⟩
end Go.Proofs.Ytelobbigpgfobaa

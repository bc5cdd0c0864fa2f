/-
  A range over a function whose rounds all go on: the iterator may look at the caller's invariant, and tells the round what it yields; A disk's Used, and the iterator that it hands back; slices.Min of numbers that are not negative, or of some that are; what a crash leaves of a disk; A region that draws its order, in whatever fence, a round too: all its operations but the last are of one value in the one world, and the last hangs on all of them: one look at each operation serves every order; A disk's Crash.
-/
import Derived.Test.YtnopljanpjmbgaaGreatMA
import Derived.RangeFuncFrom
import Derived.RangeFuncCalls
import Derived.RangeFuncNested
import Derived.RangeFuncBound
import Derived.RangeFuncLeaves
import Derived.Shelf.Abstract
import Derived.Shelf.RegionOpen
import Derived.WalkKit
import Derived.OwnWalkIn
import Derived.TacticsInMore
import Derived.LoopNIn
import Derived.LoopIn
import Derived.Test.YtnopljanpjmbgaaGreatMC
import Derived.OrdersIn
import Derived.TacticsIn
import Derived.Stop.RegionWithIn
namespace Go.Proofs.YtnopljanpjmbgaaGreat
open Go.RowKit
set_option linter.unusedVariables false
/-- The iterator's word: whatever J the rounds keep, that has the caller's invariant I in it: it yields x only where Px says so, and ends at S. -/
def SeqVis {α : Type} (F : Fence) (n : Nat) (P : Program) (gf : Nat) (lb : Array Value) (encs : α → Array Value) (I : List α → World → Prop) (Px : List α → α → Prop) (S : List α → Prop) (w : World) : Prop :=
  ∀ (l : Nat) (J : List α → World → Prop) (W : World), Below w.heap.size w W → (∀ pre V, J pre V → I pre V) →
    (∀ pre x V, J pre V → Px pre x → YieldAt F (n - 1) P l (encs x) V fun e V' => e = .returned (.bool true) ∧ J (pre ++ [x]) V') →
    J [] W → CallsIn F n P gf (#[.func (.yield l) #[] #[]] ++ lb) W fun e W' => (∃ v, e = .returned v) ∧ ∃ xs, S xs ∧ J xs W'
/-- A round goes on, and leaves what is no cells. -/
def visPost {α : Type} (I : List α → World → Prop) (xs : List α) (W : World) : Exit → Act → World → Prop
  | .normal, _, W' => KeepsOthers W W' ∧ I xs W'
  | _, _, _ => False
theorem wpIn_rangeFunc_vis {F : Fence} {n : Nat} {P : Program} {α : Type} {g : Operand} {ps : Array Tmp} {assign body : Code} {Q : Exit → Act → World → Prop} {a : Act} {w : World}
    (hro : F.round = none) (h1 : 1 ≤ n) {gf : Nat} {lb : Array Value} (hg : a.eval g = .func (.func gf) #[] lb) (hFg : F.fn gf) (eg : ∀ args w, (callFunc gf args).run P w = .ok (.enter gf args) w)
    {encs : α → Array Value} (I : List α → World → Prop) {Px : List α → α → Prop} {S : List α → Prop} (hseq : SeqVis F (n - 1) P gf lb encs I Px S w) (hps : ∀ x, (encs x).size = ps.size)
    (hI : OwnFrom w.heap.size I) (h0 : I [] w) (a₁ : α → Act)
    (hassign : ∀ (l : Nat) (x : α) (W : World) (K : Act → World → Prop), K (a₁ x) W →
      assign.wpIn (F.inRound l) (n - 1 - 1) P (Exit.then K (fun _ _ _ => False)) { tmps := (ps.zip (encs x)).foldl (fun t (p, v) => t.setIfInBounds p v) a.tmps, defers := [] } W)
    (hbody : ∀ (l : Nat) (pre : List α) (x : α) (W : World), I pre W → Px pre x → body.wpIn (F.inRound l) (n - 1 - 1) P (visPost I (pre ++ [x]) W) (a₁ x) W)
    (hdone : ∀ (D : Nat) (xs : List α) (W : World), w.heap.size ≤ D → S xs → I xs W → W.heap[D]? = some (.deferred (some [])) → Q .normal { a with defers := { target := .collected D, args := #[] } :: a.defers } W) :
    (Code.rangeFunc g ps assign body).wpIn F n P Q a w := by
  refine wpIn_rangeFunc fun fn hfn => ?_
  rw [hro]
  let D : Nat := w.heap.size
  let l : Nat := w.heap.size + 1
  let rec0 : Loop := { state := .ready, pending := none, fn, tmps := a.tmps, params := ps, assign, body, defers := w.heap.size }
  let V0 : World := w.alloc (.deferred (some []))
  have hD0 : V0.heap[D]? = some (.deferred (some [])) := World.alloc_heap_new w _
  have hs0 : V0.heap.size = l := by simp [V0, l]
  have hD1 : (V0.alloc (.loop rec0)).heap[D]? = some (.deferred (some [])) := (Below.heap_alloc _ _ _ (by rw [hs0]; simp [D, l])).trans hD0
  have hl1 : (V0.alloc (.loop rec0)).heap[l]? = some (.loop rec0) := by have := World.alloc_heap_new V0 (.loop rec0); rwa [hs0] at this
  have hb : Below w.heap.size w (V0.alloc (.loop rec0)) := ((Below.refl _ w).alloc (Nat.le_refl _) _).alloc (by simp) _
  have hi1 : I [] (V0.alloc (.loop rec0)) := hI.alloc _ (hI.alloc _ h0)
  refine ⟨l, [{ target := .collected D, args := #[] }], V0.alloc (.loop rec0), { target := .fn (.func gf) lb, args := #[.func (.yield l) #[] #[]] }, V0.alloc (.loop rec0), gf,
    #[.func (.yield l) #[] #[]] ++ lb, V0.alloc (.loop rec0), run_enterLoop_outer fn a.tmps ps assign body, ?_, ?_, ?_, fun _ => h1, ?_⟩
  · simp only [resolve, hg]
    simp [go_sem]
  · intro f' hf'
    simp [Target.leads] at hf'
    subst hf'
    exact hFg
  · simp [invoke, go_sem, eg]
  refine (hseq l (fun pre W => I pre W ∧ W.heap[l]? = some (.loop rec0) ∧ W.heap[D]? = some (.deferred (some []))) _ hb (fun _ _ h => h.1) ?_ ⟨hi1, hl1, hD1⟩).mono ?_
  · rintro pre x W ⟨hi, hl, hd⟩ hpx
    have hlW : l < W.heap.size := (Array.getElem?_eq_some_iff.1 hl).1
    refine ⟨fn, _, assign, body, run_yield hl (hps x), roundIn_of_wpIn hfn (hassign _ x W _ ⟨_, run_beginRound hl rfl, ?_⟩)⟩
    let busy : Loop := { rec0 with state := .busy }
    have hl2 : (W.putObj l (.loop busy)).heap[l]? = some (.loop busy) := World.putObj_heap_same hlW
    have hd2 : (W.putObj l (.loop busy)).heap[D]? = some (.deferred (some [])) := (World.putObj_heap_other (by simp [D, l])).trans hd
    refine wpIn_mono (hbody _ pre x _ (hI.putObj _ hi (by simp [l]) hl rfl) hpx) ?_
    intro e a3 W3 hp
    cases e with
    | normal =>
      obtain ⟨hk, hi3⟩ := hp
      have hl3 := hk.same _ _ hl2 rfl
      have hd3 := hk.same _ _ hd2 rfl
      exact ⟨_, _, run_endRound none hl3, rfl, hI.putObj _ hi3 (by simp [l]) hl3 rfl, World.putObj_heap_same (Array.getElem?_eq_some_iff.1 hl3).1, (World.putObj_heap_other (by simp [D, l])).trans hd3⟩
    | _ => exact hp.elim
  · rintro e W2 ⟨⟨v, rfl⟩, xs, hS, hi, hl, hd⟩
    exact ⟨none, _, run_endLoop hl (by simp [rec0]), hdone _ xs _ (Nat.le_refl _) hS (hI.putObj _ hi (by simp [l]) hl rfl) ((World.putObj_heap_other (by simp [D, l])).trans hd)⟩
end Go.Proofs.YtnopljanpjmbgaaGreat
namespace Go.Proofs.YtnopljanpjmbgaaGreat
open Go.RowKit Go.Shelf
set_option linter.unusedVariables false
attribute [local go_sem] Oper.semAt_some
/-- The slots below j that have bytes. -/
def usedTo (D : Nat → SlotD) (j : Nat) : List Nat := (List.range j).filter fun i => decide (0 < (D i).bytes.length)
theorem usedTo_zero (D : Nat → SlotD) : usedTo D 0 = [] := rfl
theorem usedTo_succ_pos {D : Nat → SlotD} {j : Nat} (h : 0 < (D j).bytes.length) : usedTo D (j + 1) = usedTo D j ++ [j] := by simp [usedTo, List.range_succ, h]
theorem usedTo_succ_zero {D : Nat → SlotD} {j : Nat} (h : ¬ 0 < (D j).bytes.length) : usedTo D (j + 1) = usedTo D j := by
  have h2 : (D j).bytes = [] := by cases e : (D j).bytes with
    | nil => rfl
    | cons a b => simp [e] at h
  simp [usedTo, List.range_succ, h2]
theorem usedTo_mem {D : Nat → SlotD} {i j : Nat} : i ∈ usedTo D j ↔ i < j ∧ 0 < (D i).bytes.length := by simp [usedTo]
theorem usedTo_length (D : Nat → SlotD) (j : Nat) : (usedTo D j).length ≤ j := by
  have := List.length_filter_le (fun i => decide (0 < (D i).bytes.length)) (List.range j)
  rw [List.length_range] at this
  exact this
set_option maxRecDepth 100000 in
set_option maxHeartbeats 400000 in
theorem used_any (p0 : Option Addr) (w : World) :
    Calls Tryz.prog 148 #[.pointer p0] w fun e w' => e = .returned (.func (.func 153) #[] #[.pointer (some ⟨w.heap.size, 0, none⟩)]) ∧ w' = w.alloc (.cells #[.pointer p0] 71) := by
  go_enter Tryz.func148, Tryz.ntmps148
  go_wp2_with fail
  go_ret
  exact ⟨rfl, rfl⟩
set_option maxRecDepth 100000 in
set_option maxHeartbeats 4000000 in
theorem used1_vis (m : Nat) (hm : 1 ≤ m) (Bn d n : Nat) (rb : Option Nat) (D : Nat → SlotD) (hn : 0 < n) (h34 : n ≤ 65536) (I : List Nat → World → Prop) (w : World)
    (hI : ∀ pre W, I pre W → W.cell? ⟨Bn, 0, none⟩ = some (.pointer (some ⟨d, 0, none⟩)) ∧ ∃ lay D', IsDisk W d rb n lay D' ∧ ∀ i, i < n → i ∉ pre → (D' i).bytes = (D i).bytes) :
    SeqVis Fence.wide m Tryz.prog 153 #[.pointer (some ⟨Bn, 0, none⟩)] (fun x : Nat => #[Value.int .i64 (x : Int)]) I (fun pre x => pre = usedTo D x ∧ x < n ∧ 0 < (D x).bytes.length) (fun xs => xs = usedTo D n) w := by
  rintro l J W hbW hJI hY h0
  obtain ⟨hBn, lay0, D0, hd0, _⟩ := hI _ _ (hJI _ _ h0)
  have HV := Lib.hid (slots_disk hd0 hn)
  clear hd0
  have HI := Lib.hid hI
  have HJI := Lib.hid hJI
  have HYY := Lib.hid hY
  clear hI hJI hY
  refine callsIn_of_wp Tryz.func153 rfl trivial ?_ rfl
  simp only [Tryz.ntmps153, List.size_toArray, List.length_cons, List.length_nil, Nat.reduceAdd, Nat.reduceSub, Array.replicate_succ, Array.replicate_zero, List.push_toArray, List.append_toArray, List.nil_append, List.cons_append]
  gi_wp2_with (refine ⟨trivial, ?_⟩; gi_at_call 154; refine (callsIn_wide.2 HV.out).mono ?_; rintro e w' ⟨rfl, rfl⟩)
  gi_loopw [6] (fun v wr => ∃ (j : Nat), v = .int .i64 (j : Int) ∧ j ≤ n ∧ J (usedTo D j) wr)
    (fun v wr => n - (intOf v).toNat)
  case atStart => exact ⟨0, rfl, by omega, h0⟩
  case round =>
    obtain ⟨j, rfl, hj, hJs⟩ := hrel
    by_cases hlt : j < n
    · obtain ⟨qb, lay, D', hd, hD⟩ := HI.out _ _ (HJI.out _ _ hJs)
      have hlen : (D' j).bytes = (D j).bytes := hD j hlt (fun e => by have := (usedTo_mem.1 e).1; omega)
      obtain ⟨A, c, qd, k1, k2, hptr⟩ := hd.cells
      obtain ⟨ad, rfl, qp⟩ := hptr j hlt
      have hL : Hid (Calls Tryz.prog 133 #[.pointer (some ⟨(lay j).1, 0, none⟩)] wr fun e w' => e = .returned (.int .i64 ((D j).bytes.length : Int)) ∧ wr = w') := by
        show Calls _ _ _ _ _
        rw [← hlen]
        exact len_img (hd.img j hlt)
      have hcm : c ≤ 9223372036854775807 := k2
      clear hd hD hptr hlen k2
      obtain ⟨L, hLe⟩ : ∃ L, (D j).bytes.length = L := ⟨_, rfl⟩
      rw [hLe] at hL
      have HL := Lib.hid hLe
      have HJ := Lib.hid hJs
      by_cases hpos : 0 < L
      · obtain ⟨fn, tmps, assign, body, hy, hR⟩ := HYY.out _ j wr hJs ⟨rfl, hlt, by rw [hLe]; exact hpos⟩
        have HE : Hid (usedTo D (j + 1) = usedTo D j ++ [j]) := usedTo_succ_pos (by rw [hLe]; exact hpos)
        clear hJs hLe
        try dsimp only at hy
        gi_wp2_with (first | (refine ⟨trivial, ?_⟩; gi_at_call 133; refine (callsIn_wide.2 hL.out).mono ?_; rintro e w' ⟨rfl, rfl⟩) | fail)
        refine hR.mono ?_
        rintro e W3 ⟨rfl, hJ3⟩
        gi_wp2
        go_roundw
        case rel => exact ⟨j + 1, by go_num, by omega, by rw [HE.out]; exact hJ3⟩
        case measure => simp [intOf]; omega
      · have HE : Hid (usedTo D (j + 1) = usedTo D j) := usedTo_succ_zero (by rw [hLe]; exact hpos)
        clear hJs hLe
        gi_wp2_with (first | (refine ⟨trivial, ?_⟩; gi_at_call 133; refine (callsIn_wide.2 hL.out).mono ?_; rintro e w' ⟨rfl, rfl⟩) | fail)
        refine ⟨fun _ h => (by cases h), ?_⟩
        gi_wp2
        go_roundw
        case rel => exact ⟨j + 1, by go_num, by omega, by rw [HE.out]; exact HJ.out⟩
        case measure => simp [intOf]; omega
    · have hj2 : j = n := by omega
      subst hj2
      gi_wp2
      go_end0
      exact ⟨⟨_, rfl⟩, _, rfl, hJs⟩
end Go.Proofs.YtnopljanpjmbgaaGreat
namespace Go.Proofs.YtnopljanpjmbgaaGreat
open Go.RowKit Go.Shelf
set_option linter.unusedVariables false
set_option maxRecDepth 100000 in
set_option maxHeartbeats 1000000 in
theorem min_ints (A : Option Addr) (m c : Nat) (zs : List Int) (w : World) (hr : Reads w w.heap.size 1 A m (ints zs)) (h1 : 1 ≤ m) (hm : m ≤ 65536) :
    Calls Tryz.prog 147 #[.slice A m c] w fun e w' => ∃ r, e = .returned (.int .i64 r) ∧ (r < 0 ↔ ∃ z ∈ zs, z < 0) ∧ w = w' := by
  have hlen : zs.length = m := by have := hr.1; rw [ints_length] at this; omega
  have HL := Lib.hid hlen
  have HC : Hid (∀ k, k < m → ∃ ad, A = some ad ∧ w.cell? (ad.add k) = some (.int .i64 (zs.getD k 0))) := fun k hk => by
    obtain ⟨ad, u, e, _, hx, hc⟩ := hr.at_ hk
    have hkz : k < zs.length := by omega
    rw [ints_at hkz] at hx
    injection hx with hx
    subst hx
    refine ⟨ad, e, ?_⟩
    rw [hc, List.getD_eq_getElem?_getD, List.getElem?_eq_getElem hkz, Option.getD_some]
  obtain ⟨ad, rfl, q0⟩ := HC.out 0 (by omega)
  obtain ⟨z0, hz0⟩ : ∃ z0, zs.getD 0 0 = z0 := ⟨_, rfl⟩
  rw [hz0, show ad.add 0 = ad from by simp [Addr.add]] at q0
  have HZ := Lib.hid hz0
  clear hr hlen hz0
  go_enter Tryz.func147, Tryz.ntmps147
  go_wp2_with fail
  go_loopg [3, 4] m (fun q v3 v4 wr => ∃ (j : Nat) (r : Int), j + q = m + 1 ∧ j ≤ m ∧ 1 ≤ j ∧ v3 = .int .i64 r ∧ v4 = .int .i64 j ∧ (r < 0 ↔ ∃ k, k < j ∧ zs.getD k 0 < 0) ∧ w = wr)
  case atStart =>
    refine ⟨1, z0, by omega, by omega, by omega, rfl, rfl, ⟨fun h => ⟨0, by omega, (by rw [HZ.out]; exact h)⟩, fun ⟨k, h, h2⟩ => ?_⟩, rfl⟩
    have hk : k = 0 := by omega
    subst hk
    rw [HZ.out] at h2
    exact h2
  case round =>
    obtain ⟨j, r, hj, hj0, hj1, rfl, rfl, hr, rfl⟩ := hrel
    have hj' : j ≤ m := by omega
    have HJ := Lib.hid hj
    have HR := Lib.hid hr
    clear hr
    by_cases hlt : j < m
    · obtain ⟨ad', e, qc⟩ := HC.out j hlt
      injection e with e
      subst e
      obtain ⟨z, hz⟩ : ∃ z, zs.getD j 0 = z := ⟨_, rfl⟩
      rw [hz] at qc
      have HZ2 := Lib.hid hz
      clear hj hz
      go_wp2_with fail
      all_goals
        go_roundg (gk - 1)
        case measure => have := HJ.out; omega
        case rel =>
          refine ⟨j + 1, _, by have := HJ.out; omega, by omega, by omega, rfl, by go_num, ?_, rfl⟩
          have hr := HR.out
          have hz := HZ2.out
          constructor
          · intro h
            by_cases e : z < 0
            · exact ⟨j, by omega, by rw [hz]; exact e⟩
            · have : r < 0 := by (try split at h) <;> omega
              obtain ⟨k, h1, h2⟩ := hr.1 this
              exact ⟨k, by omega, h2⟩
          · rintro ⟨k, h1, h2⟩
            by_cases e : k = j
            · subst e
              rw [hz] at h2
              (try split) <;> omega
            · have := hr.2 ⟨k, by omega, h2⟩
              (try split) <;> omega
    · have e8 : j = m := by omega
      subst e8
      clear hj
      go_wp2_with fail
      go_ret
      refine ⟨r, rfl, HR.out.trans ⟨fun ⟨k, h1, h2⟩ => ?_, fun ⟨z, h1, h2⟩ => ?_⟩, rfl⟩
      · have hkz : k < zs.length := by rw [HL.out]; exact h1
        rw [List.getD_eq_getElem?_getD, List.getElem?_eq_getElem hkz, Option.getD_some] at h2
        exact ⟨_, List.getElem_mem hkz, h2⟩
      · obtain ⟨k, hk, rfl⟩ := List.mem_iff_getElem.1 h1
        refine ⟨k, by have := HL.out; omega, ?_⟩
        rw [List.getD_eq_getElem?_getD, List.getElem?_eq_getElem hk, Option.getD_some]
        exact h2
/-- How many bytes a slot keeps. -/
def crashN (keep : Int) (x : SlotD) : Nat := x.dur + min keep.toNat (x.bytes.length - x.dur)
def crashS (keep : Int) (x : SlotD) : SlotD := ⟨x.size, x.bytes.take (crashN keep x), crashN keep x⟩
def keepAt (zs : List Int) (i : Nat) : Int := zs.getD (i % zs.length) 0
def crashD (zs : List Int) (D : Nat → SlotD) : Nat → SlotD := fun i => crashS (keepAt zs i) (D i)
/-- The slots of a list have crashed. -/
def crAt (zs : List Int) (D : Nat → SlotD) (pre : List Nat) : Nat → SlotD := fun i => if i ∈ pre then crashS (keepAt zs i) (D i) else D i
theorem crAt_nil (zs : List Int) (D : Nat → SlotD) : crAt zs D [] = D := by funext i; simp [crAt]
theorem crAt_snoc (zs : List Int) (D : Nat → SlotD) (pre : List Nat) (x : Nat) : crAt zs D (pre ++ [x]) = updF (crAt zs D pre) x (crashS (keepAt zs x) (D x)) := by
  funext i
  unfold crAt updF
  by_cases e : i = x
  · subst e; simp
  · simp [e]
theorem crashS_min {keep : Int} {x : SlotD} (hk : 0 ≤ keep) (hl : x.bytes.length ≤ 8192) : crashS (min keep 8192) x = crashS keep x := by
  have e : crashN (min keep 8192) x = crashN keep x := by unfold crashN; omega
  unfold crashS
  rw [e]
theorem crashS_empty {keep : Int} {x : SlotD} (hl : x.bytes.length = 0) (hd : x.dur ≤ x.bytes.length) : crashS keep x = x := by
  obtain ⟨size, bytes, dur⟩ := x
  have hb : bytes = [] := by cases bytes with
    | nil => rfl
    | cons a l => simp at hl
  subst hb
  have hd' : dur = 0 := by simpa using hd
  subst hd'
  simp [crashS, crashN]
theorem IsDisk.congr {w : World} {d n : Nat} {rb : Option Nat} {lay : Lay} {D D' : Nat → SlotD} (h : IsDisk w d rb n lay D) (hD : ∀ i, i < n → D' i = D i) : IsDisk w d rb n lay D' :=
  ⟨h.row, h.ne, fun i hi => by rw [hD i hi]; exact h.img i hi, h.own, h.apart⟩
theorem IsDisk.nums {w : World} {d n : Nat} {rb : Option Nat} {lay : Lay} {D : Nat → SlotD} (h : IsDisk w d rb n lay D) {i : Nat} (hi : i < n) : (D i).dur ≤ (D i).bytes.length ∧ (D i).bytes.length ≤ (D i).size ∧ 1 ≤ (D i).size ∧ (D i).size ≤ 8192 := (h.img i hi).nums
/-- All the slots with bytes have crashed: all have. -/
theorem IsDisk.crashed {w w0 : World} {d n : Nat} {rb : Option Nat} {lay : Lay} {D : Nat → SlotD} {zs : List Int} (h0 : IsDisk w0 d rb n lay D) (h : IsDisk w d rb n lay (crAt zs D (usedTo D n))) : IsDisk w d rb n lay (crashD zs D) :=
  h.congr fun i hi => by
    unfold crashD crAt
    by_cases e : 0 < (D i).bytes.length
    · rw [if_pos (usedTo_mem.2 ⟨hi, e⟩)]
    · rw [if_neg (fun hm => e (usedTo_mem.1 hm).2), crashS_empty (by omega) (h0.nums hi).1]
theorem img_cells {w : World} {g : Nat} {fb : Option Nat} {l : List (BitVec 8)} {size dur : Nat} (h : IsImg w g fb l size dur) : ∀ k, foot g fb k → ∃ ob, w.heap[k]? = some ob ∧ ob.isCells = true := by
  obtain ⟨A, n, c, hi, rfl⟩ := h
  rintro k (rfl | hk)
  · exact ⟨_, hi.blk, rfl⟩
  · exact cellOb_row _ _ _ _ _ w hi.own k hk
theorem cellOb_disk (d : Nat) (rb : Option Nat) (n : Nat) (lay : Lay) (D : Nat → SlotD) : CellOb (diskOb d rb n lay D) := fun w h k hk => by
  have h' : IsDisk w d rb n lay D := h
  rcases hk with rfl | hk | ⟨i, hi, hk⟩
  · obtain ⟨A, c, h1, _, _⟩ := h'.row
    exact ⟨_, h1, rfl⟩
  · obtain ⟨A, c, _, h2, h3⟩ := h'.row
    exact cellOb_row _ _ _ _ _ w h2 k (h3.symm.trans hk)
  · exact img_cells (h'.img i hi) k hk
end Go.Proofs.YtnopljanpjmbgaaGreat
namespace Go.Proofs.YtnopljanpjmbgaaGreat
open Go.RowKit
set_option linter.unusedVariables false
theorem countP_range_off (f : Nat → Bool) (i : Nat) (hf : f i = true) : ∀ N, i < N → (List.range N).countP (fun j => f j && j != i) + 1 = (List.range N).countP f
  | 0, h => by omega
  | N + 1, h => by
    rw [List.range_succ, List.countP_append, List.countP_append]
    by_cases e : i = N
    · subst e
      have : (List.range i).countP (fun j => f j && j != i) = (List.range i).countP f := List.countP_congr fun j hj => by
        have := List.mem_range.1 hj
        have : j ≠ i := by omega
        simp [this]
      rw [this]
      simp [hf]
    · have := countP_range_off f i hf N (by omega)
      have e2 : N ≠ i := fun h => e h.symm
      have : ([N].countP fun j => f j && j != i) = [N].countP f := by simp [List.countP_cons, e2]
      omega
def unl (N : Nat) (listed : Array Bool) : Nat := (List.range N).countP fun i => !listed.getD i true
theorem getD_set (listed : Array Bool) (i j : Nat) (b : Bool) (hi : i < listed.size) : (listed.setIfInBounds i true).getD j b = if j = i then true else listed.getD j b := by
  by_cases e : j = i
  · subst e; simp [Array.getD, hi]
  · have : i ≠ j := fun h => e h.symm
    simp only [Array.getD_eq_getD_getElem?, Array.getElem?_setIfInBounds, if_neg this, if_neg e]
theorem unl_set {N i : Nat} {listed : Array Bool} (hs : listed.size = N) (hi : i < N) (h : listed.getD i true = false) : unl N (listed.setIfInBounds i true) + 1 = unl N listed := by
  unfold unl
  rw [← countP_range_off (fun i => !listed.getD i true) i (by simp only [h]; rfl) N hi]
  congr 1
  apply List.countP_congr
  intro j hj
  rw [getD_set _ _ _ _ (by omega)]
  by_cases e : j = i
  · simp [e]
  · simp [e]
def fillAt (a0 : Act) (s0 : Nat) (tF : Array Value) (listed : Array Bool) : Act :=
  { a0 with tmps := a0.tmps.mapIdx fun k v => if s0 ≤ k ∧ listed.getD (k - s0) false = true then tF.getD k v else v }
theorem fillAt_put (a0 : Act) (s0 : Nat) (tF : Array Value) (listed : Array Bool) (i : Nat) (v : Value) (hi : i < listed.size) (hb : s0 + i < a0.tmps.size) (hv : tF[s0 + i]? = some v) :
    (fillAt a0 s0 tF listed).put (some (s0 + i)) v = fillAt a0 s0 tF (listed.setIfInBounds i true) := by
  unfold fillAt Act.put
  simp only [Act.mk.injEq, and_true]
  apply Array.ext_getElem?
  intro k
  rw [Array.getElem?_setIfInBounds]
  simp only [Array.getElem?_mapIdx, Array.size_mapIdx, getD_set _ _ _ _ hi]
  by_cases e : s0 + i = k
  · subst e
    rw [if_pos rfl, if_pos hb, Array.getElem?_eq_getElem hb]
    simp [Array.getD_eq_getD_getElem?, hv]
  · rw [if_neg e]
    by_cases h : s0 ≤ k
    · have : k - s0 ≠ i := by omega
      simp [this]
    · simp [h]
def opPlain : Op → Bool
  | .defer _ => false
  | .select _ _ => false
  | _ => true
def needs (o : Oper) (i : Nat) : Bool := o.after.any fun e => Region.binds .any e && e.on == i
/-- The region's operations write slots s0, s0 + 1, .. in turn, read what is below s0 or what they come after, and each but the last is needed by a later one. -/
def heldOk (s0 : Nat) (ops : Array Oper) : Bool := (List.range ops.size).all fun i => match ops[i]? with
  | none => false
  | some o => o.dst == some (s0 + i) && o.guard.isNone && opPlain o.op && (o.after.all fun e => !Region.binds .any e || decide (e.on < i)) &&
      (o.op.operands.all fun x => match x with
        | .tmp k => decide (k < s0) || (decide (s0 ≤ k) && needs o (k - s0))
        | _ => true) &&
      (i + 1 == ops.size || (List.range ops.size).any fun j => decide (i < j) && ((ops[j]?).map fun o' => needs o' i).getD false)
structure HeldAt (s0 : Nat) (ops : Array Oper) (i : Nat) (o : Oper) : Prop where
  dst : o.dst = some (s0 + i)
  guard : o.guard = none
  plain : opPlain o.op = true
  down : ∀ e ∈ o.after, Region.binds .any e = true → e.on < i
  reads : ∀ k, Operand.tmp k ∈ o.op.operands → k < s0 ∨ (s0 ≤ k ∧ needs o (k - s0) = true)
  later : i + 1 = ops.size ∨ ∃ j o', i < j ∧ ops[j]? = some o' ∧ needs o' i = true
theorem heldAt {s0 : Nat} {ops : Array Oper} (h : heldOk s0 ops = true) {i : Nat} {o : Oper} (ho : ops[i]? = some o) : HeldAt s0 ops i o := by
  have hi : i < ops.size := (Array.getElem?_eq_some_iff.1 ho).1
  have h1 := List.all_eq_true.1 h i (List.mem_range.2 hi)
  rw [ho] at h1
  simp only [Bool.and_eq_true] at h1
  obtain ⟨⟨⟨⟨⟨d1, d2⟩, d3⟩, d4⟩, d5⟩, d6⟩ := h1
  refine ⟨by simpa using d1, by simpa using d2, d3, fun e he hb => ?_, fun k hk => ?_, ?_⟩
  · have := Array.all_eq_true_iff_forall_mem.1 d4 e he
    simpa [hb] using this
  · have := Array.all_eq_true_iff_forall_mem.1 d5 _ hk
    simpa using this
  · rcases Bool.or_eq_true_iff.1 d6 with e | e
    · left; simpa using e
    · right
      obtain ⟨j, hj, h2⟩ := List.any_eq_true.1 e
      simp only [Bool.and_eq_true, decide_eq_true_eq] at h2
      cases ho' : ops[j]? with
      | none => rw [ho'] at h2; simp at h2
      | some o' => rw [ho'] at h2; exact ⟨j, o', h2.1, ho', by simpa using h2.2⟩
theorem ready_spec {ops : Array Oper} {listed : Array Bool} {i : Nat} (h : i ∈ Region.ready .any ops listed) : ∃ o, ops[i]? = some o ∧ listed.getD i true = false ∧ ∀ j, needs o j = true → listed.getD j false = true := by
  unfold Region.ready at h
  obtain ⟨h1, h2⟩ := List.mem_filter.1 h
  have hi := List.mem_range.1 h1
  rw [Array.getElem?_eq_getElem hi] at h2
  simp only [Option.map_some, Option.getD_some, Bool.and_eq_true, Bool.not_eq_true'] at h2
  refine ⟨ops[i], Array.getElem?_eq_getElem hi, h2.1, fun j hj => ?_⟩
  obtain ⟨e, he, hb⟩ := Array.any_eq_true'.1 hj
  simp only [Bool.and_eq_true, beq_iff_eq] at hb
  have := Array.all_eq_true_iff_forall_mem.1 h2.2 e he
  simpa [hb.1, hb.2] using this
theorem ready_of {ops : Array Oper} {listed : Array Bool} {i : Nat} {o : Oper} (ho : ops[i]? = some o) (hl : listed.getD i true = false) (hd : ∀ e ∈ o.after, Region.binds .any e = true → listed.getD e.on false = true) : i ∈ Region.ready .any ops listed := by
  unfold Region.ready
  refine List.mem_filter.2 ⟨List.mem_range.2 (Array.getElem?_eq_some_iff.1 ho).1, ?_⟩
  rw [ho]
  simp only [Option.map_some, Option.getD_some, Bool.and_eq_true, Bool.not_eq_true']
  refine ⟨hl, Array.all_eq_true_iff_forall_mem.2 fun e he => ?_⟩
  by_cases hb : Region.binds .any e = true
  · simp [hd e he hb]
  · simp [hb]
theorem getD_tf (listed : Array Bool) (i : Nat) (hi : i < listed.size) : listed.getD i true = listed.getD i false := by simp [Array.getD, hi]
/-- What the region leaves: all slots filled but the last operation's. -/
theorem fillAt_all (a0 : Act) (s0 M : Nat) (tF : Array Value) (listed : Array Bool) (hs : listed.size = M + 1) (hl : ∀ i, i < M → listed.getD i false = true) (hM : listed.getD M false = false) (hsz : tF.size = a0.tmps.size)
    (htF : ∀ k, k < s0 ∨ s0 + M ≤ k → tF[k]? = a0.tmps[k]?) : fillAt a0 s0 tF listed = { a0 with tmps := tF } := by
  unfold fillAt
  simp only [Act.mk.injEq, and_true]
  apply Array.ext_getElem?
  intro k
  rw [Array.getElem?_mapIdx]
  by_cases hk : k < a0.tmps.size
  · rw [Array.getElem?_eq_getElem hk, Option.map_some]
    by_cases h : s0 ≤ k ∧ listed.getD (k - s0) false = true
    · rw [if_pos h]
      have hk' : k < tF.size := by omega
      simp [Array.getD, hk']
    · rw [if_neg h, htF k ?_, Array.getElem?_eq_getElem hk]
      by_cases e : k < s0
      · exact .inl e
      · right
        by_cases e2 : k - s0 < M
        · exact absurd ⟨by omega, hl _ e2⟩ h
        · omega
  · rw [Array.getElem?_eq_none (by omega), Array.getElem?_eq_none (by omega)]
    rfl
theorem opPlain_spec {op : Op} (h : opPlain op = true) : (∀ c, op ≠ .defer c) ∧ ∀ cs b, op ≠ .select cs b := by
  constructor
  · intro c e; subst e; cases h
  · intro cs b e; subst e; cases h
theorem wpAnyIn_held {F : Fence} {n : Nat} {P : Program} {ops : Array Oper} {Q : Exit → Act → World → Prop} {a0 : Act} {w : World} (s0 M : Nat) (tF : Array Value) (hok : heldOk s0 ops = true) (hN : ops.size = M + 1) (hb : s0 + M < a0.tmps.size) (hsz : tF.size = a0.tmps.size)
    (htF : ∀ k, k < s0 ∨ s0 + M ≤ k → tF[k]? = a0.tmps[k]?)
    (hval : ∀ i o, i < M → ops[i]? = some o → (∀ f, o.about P w ({ a0 with tmps := tF } : Act).eval = some f → F.fn f) ∧ ∃ v, tF[s0 + i]? = some v ∧ (execOp ({ a0 with tmps := tF } : Act).eval o).run P w = .ok (.value v) w)
    (hlast : ∀ o, ops[M]? = some o → o.wpIn F n P { a0 with tmps := tF } w (fun a' w' => Q .normal a' w') Q) :
    ∀ (fuel : Nat) (listed : Array Bool), listed.size = M + 1 → unl (M + 1) listed ≤ fuel → (∀ i o, ops[i]? = some o → listed.getD i false = true → ∀ j, needs o j = true → listed.getD j false = true) → listed.getD M false = false → wpAnyIn F n P .any ops Q fuel listed (fillAt a0 s0 tF listed) w
  | 0, listed, hs, hu, hd, hM => by
    have := unl_set hs (show M < M + 1 by omega) (by rw [getD_tf _ _ (by omega)]; exact hM)
    omega
  | fuel + 1, listed, hs, hu, hd, hM => by
    refine ⟨fun hr => ?_, fun i hi => ?_⟩
    · exfalso
      have key : ∀ i, i < M + 1 → listed.getD i false = true := by
        intro i
        induction i using Nat.strongRecOn with
        | _ i ih =>
          intro hi
          by_cases e : listed.getD i false = true
          · exact e
          · have ho : ops[i]? = some (ops[i]'(by omega)) := Array.getElem?_eq_getElem (by omega)
            have := ready_of ho (by rw [getD_tf listed i (by omega)]; simpa using e) (fun x hx hbd => by
              have hlt := (heldAt hok ho).down x hx hbd
              exact ih _ hlt (by omega))
            rw [hr] at this
            cases this
      rw [key M (by omega)] at hM
      cases hM
    · obtain ⟨o, ho, hl, hneed⟩ := ready_spec hi
      have hiN : i < M + 1 := by rw [← hN]; exact (Array.getElem?_eq_some_iff.1 ho).1
      have H := heldAt hok ho
      obtain ⟨hp1, hp2⟩ := opPlain_spec H.plain
      have hw : Region.wanted o (yielded ops (fillAt a0 s0 tF listed).tmps) = true := by simp [Region.wanted, H.guard]
      have hmain := wpAnyIn_held s0 M tF hok hN hb hsz htF hval hlast fuel
      unfold wpOpIn
      rw [ho]
      dsimp only
      rw [if_pos hw]
      by_cases hiM : i < M
      · obtain ⟨hab, v, hv, hrun⟩ := hval i o hiM ho
        have key : ∀ k : Nat, (k < s0 ∨ (s0 ≤ k ∧ listed.getD (k - s0) false = true)) → (fillAt a0 s0 tF listed).tmps.getD k undef = tF.getD k undef := by
          intro k hk2
          unfold fillAt
          simp only [Array.getD_eq_getD_getElem?, Array.getElem?_mapIdx]
          rcases hk2 with e | ⟨e, h2⟩
          · rw [htF k (.inl e)]
            have hn : ¬ s0 ≤ k := by omega
            cases hk : a0.tmps[k]? with
            | none => rfl
            | some u => simp [hn]
          · rw [Array.getD_eq_getD_getElem?] at h2
            by_cases hk : k < a0.tmps.size
            · have hk' : k < tF.size := by omega
              have e1 : a0.tmps[k]? = some a0.tmps[k] := Array.getElem?_eq_getElem hk
              have e2 : tF[k]? = some tF[k] := Array.getElem?_eq_getElem hk'
              rw [e1, e2]
              simp [e, h2]
            · have e1 : a0.tmps[k]? = none := Array.getElem?_eq_none (by omega)
              have e2 : tF[k]? = none := Array.getElem?_eq_none (by omega)
              rw [e1, e2]
              rfl
        have hev : ∀ x ∈ o.op.operands, (fillAt a0 s0 tF listed).eval x = ({ a0 with tmps := tF } : Act).eval x := by
          intro x hx
          cases x with
          | tmp k =>
            refine key k ?_
            rcases H.reads k hx with e | ⟨e, h2⟩
            · exact .inl e
            · exact .inr ⟨e, hneed _ h2⟩
          | _ => rfl
        have hrun2 : (o.semAt F.round (fillAt a0 s0 tF listed).eval).run P w = .ok (.value v) w := by
          rw [Oper.semAt_eq _ _ _ hp1, execOp_congr o hp2 hev]
          exact hrun
        refine ⟨fun f hf => hab f (by rw [← about_congr o w hev]; exact hf), ?_⟩
        rw [hrun2, Oper.uponIn_value, H.dst, fillAt_put a0 s0 tF listed i v (by omega) (by omega) hv]
        refine hmain _ (by simpa using hs) ?_ ?_ ?_
        · have := unl_set hs hiN hl
          omega
        · intro i2 o2 ho2 h2 j hj
          rw [getD_set _ _ _ _ (by omega)] at h2 ⊢
          by_cases ej : j = i
          · rw [if_pos ej]
          · rw [if_neg ej]
            by_cases e2 : i2 = i
            · subst e2
              rw [ho] at ho2
              injection ho2 with ho2
              subst ho2
              exact hneed j hj
            · rw [if_neg e2] at h2
              exact hd i2 o2 ho2 h2 j hj
        · rw [getD_set _ _ _ _ (by omega), if_neg (by omega)]
          exact hM
      · have e : i = M := by omega
        subst e
        have hall : ∀ q j, i - j ≤ q → j < i → listed.getD j false = true := by
          intro q
          induction q with
          | zero => intro j h1 h2; omega
          | succ q ih =>
            intro j h1 h2
            have hoj : ops[j]? = some (ops[j]'(by omega)) := Array.getElem?_eq_getElem (by omega)
            rcases (heldAt hok hoj).later with e | ⟨j', o', hjj, ho', hn'⟩
            · omega
            · have hj' : j' < i + 1 := by rw [← hN]; exact (Array.getElem?_eq_some_iff.1 ho').1
              by_cases e : j' = i
              · subst e
                rw [ho] at ho'
                injection ho' with ho'
                subst ho'
                exact hneed j hn'
              · exact hd j' o' ho' (ih j' (by omega) (by omega)) j hn'
        rw [fillAt_all a0 s0 i tF listed hs (fun j hj => hall _ j (Nat.le_refl _) hj) hM hsz htF]
        refine Oper.wpIn_mono (fun a' w' hq => ?_) (hlast o ho)
        refine wpAnyIn_done ?_ hq fuel
        unfold Region.ready
        refine List.filter_eq_nil_iff.2 fun j hj => ?_
        have hj2 := List.mem_range.1 hj
        rw [getD_set _ _ _ _ (by omega)]
        by_cases ej : j = i
        · simp [ej]
        · rw [if_neg ej, getD_tf _ _ (by omega), hall _ j (Nat.le_refl _) (by omega)]
          simp
/-- The whole region, in whatever fence. -/
theorem wpIn_region_held {F : Fence} {n : Nat} {P : Program} {id : Nat} {ops : Array Oper} {Q : Exit → Act → World → Prop} {a0 : Act} {w : World} (s0 M : Nat) (tF : Array Value) (hm : P.follows .mixedOrders = true) (hok : heldOk s0 ops = true) (hN : ops.size = M + 1) (hb : s0 + M < a0.tmps.size) (hsz : tF.size = a0.tmps.size)
    (htF : ∀ k, k < s0 ∨ s0 + M ≤ k → tF[k]? = a0.tmps[k]?)
    (hval : ∀ i o, i < M → ops[i]? = some o → (∀ f, o.about P w.drew ({ a0 with tmps := tF } : Act).eval = some f → F.fn f) ∧ ∃ v, tF[s0 + i]? = some v ∧ (execOp ({ a0 with tmps := tF } : Act).eval o).run P w.drew = .ok (.value v) w.drew)
    (hlast : ∀ o, ops[M]? = some o → o.wpIn F n P { a0 with tmps := tF } w.drew (fun a' w' => Q .normal a' w') Q) : (Code.region id ops true).wpIn F n P Q a0 w := by
  refine wpIn_region_any hm ?_
  have h := wpAnyIn_held s0 M tF hok hN hb hsz htF hval hlast ops.size (Array.replicate ops.size false) (by simpa using hN) ?_ ?_ ?_
  · have e : fillAt a0 s0 tF (Array.replicate ops.size false) = a0 := by
      unfold fillAt
      cases a0 with
      | mk tmps defers =>
        simp only [Act.mk.injEq, and_true]
        apply Array.ext_getElem?
        intro k
        rw [Array.getElem?_mapIdx]
        have : ∀ j : Nat, (Array.replicate ops.size false).getD j false = false := fun j => by
          simp only [Array.getD_eq_getD_getElem?, Array.getElem?_replicate]
          split <;> rfl
        simp [this]
    rw [e] at h
    exact h
  · rw [hN]
    have := List.countP_le_length (p := fun i => !(Array.replicate (M + 1) false).getD i true) (l := List.range (M + 1))
    simpa [unl] using this
  · intro i o _ h
    simp only [Array.getD_eq_getD_getElem?, Array.getElem?_replicate] at h
    split at h <;> cases h
  · simp only [Array.getD_eq_getD_getElem?, Array.getElem?_replicate]
    split <;> rfl
end Go.Proofs.YtnopljanpjmbgaaGreat
namespace Go.Proofs.YtnopljanpjmbgaaGreat
open Go.RowKit Go.Shelf
set_option linter.unusedVariables false
attribute [local go_sem] Oper.semAt_some
section
variable {B : Nat} {w0 w : World} {os : List Ob} {d n : Nat} {rb : Option Nat} {lay : Lay} {D : Nat → SlotD}
/-- The call's own blocks beside the disk. -/
def crOs (s d n : Nat) (rb : Option Nat) (lay : Lay) (D : Nat → SlotD) (v : Value) (os : List Ob) : List Ob :=
  [blkOb (s + 1 + 1) 71 #[.pointer (some ⟨d, 0, none⟩)], blkOb (s + 1) 62 #[v], blkOb s 71 #[.pointer (some ⟨d, 0, none⟩)], diskOb d rb n lay D] ++ os
theorem crOs_cells {s : Nat} {v : Value} (hC : AllCells os) : AllCells (crOs s d n rb lay D v os) :=
  AllCells.cons (cellOb_blk _ _ _) (AllCells.cons (cellOb_blk _ _ _) (AllCells.cons (cellOb_blk _ _ _) (AllCells.cons (cellOb_disk _ _ _ _ _) hC)))
set_option maxRecDepth 100000 in
set_option maxHeartbeats 8000000 in
theorem sep_crashdisk (h : Sep B w0 w (diskOb d rb n lay D :: os)) (hC : AllCells os) (hn : 0 < n) (hm34 : n ≤ 65536) (A : Option Addr) (m c : Nat) (zs : List Int)
    (hr : ∀ X D', Sep B w0 X (diskOb d rb n lay D' :: os) → Reads X X.heap.size 1 A m (ints zs)) (h1 : 1 ≤ m) (h2 : m ≤ 34) (hk : ∀ z ∈ zs, 0 ≤ z ∧ z ≤ 9223372036854775807) :
    Calls Tryz.prog 121 #[.pointer (some ⟨d, 0, none⟩), .slice A m c] w fun e w' => e = .returned (.int .i64 0) ∧ Sep B w0 w' (diskOb d rb n lay (crashD zs D) :: os) := by
  refine (callsIn_wide (n := 5)).1 ?_
  have hd : IsDisk w d rb n lay D := h.get (.head _)
  have hlen : zs.length = m := by have := (hr w D h).1; rw [ints_length] at this; omega
  have HL := Lib.hid hlen
  have HR := Lib.hid hr
  have HK := Lib.hid hk
  have HCC := Lib.hid hC
  have H1 : Hid (Sep B w0 ((w.alloc (.cells #[.pointer (some ⟨d, 0, none⟩)] 71)).alloc (.cells #[.slice A m c] 62)) (blkOb (w.heap.size + 1) 62 #[.slice A m c] :: blkOb w.heap.size 71 #[.pointer (some ⟨d, 0, none⟩)] :: diskOb d rb n lay D :: os)) :=
    (h.newBlk w.heap.size _ _ rfl).newBlk (w.heap.size + 1) _ _ (by simp)
  have hB := h.big
  have HD0 := Lib.hid hd
  clear h hC hr hk hlen hd
  refine callsIn_of_wp_marks Tryz.func121 rfl trivial ?_ rfl
  simp only [Tryz.ntmps121, List.size_toArray, List.length_cons, List.length_nil, Nat.reduceAdd, Nat.reduceSub, Array.replicate_succ, Array.replicate_zero, List.push_toArray, List.append_toArray, List.nil_append, List.cons_append]
  obtain ⟨W1, hW1⟩ : ∃ W1 : World, W1 = ((w.alloc (.cells #[.pointer (some ⟨d, 0, none⟩)] 71)).alloc (.cells #[.slice A m c] 62)) := ⟨_, rfl⟩
  rw [← hW1] at H1
  have hs1 : W1.heap.size = w.heap.size + 2 := by rw [hW1]; simp
  have HV : Hid (Calls Tryz.prog 129 #[.pointer (some ⟨d, 0, none⟩)] W1 fun e w' => e = .returned (.bool true) ∧ W1 = w') := valid_disk (show IsDisk W1 d rb n lay D from H1.out.get (.tail _ (.tail _ (.head _)))) hn
  have HM : Hid (Calls Tryz.prog 147 #[.slice A m c] W1 fun e w' => ∃ r, e = .returned (.int .i64 r) ∧ ¬ r < 0 ∧ W1 = w') := by
    refine (min_ints A m c zs W1 (HR.out W1 D (H1.out.sub ((List.Sublist.refl _).cons _ |>.cons _))) h1 (by omega)).mono ?_
    rintro e w' ⟨r, h1, h2, h3⟩
    exact ⟨r, h1, fun hr => by
      obtain ⟨z, hz, hz2⟩ := h2.1 hr
      have := (HK.out z hz).1
      omega, h3⟩
  rw [hW1] at HV HM
  gi_wp2_with (first
    | (refine ⟨trivial, ?_⟩; gi_at_call 129; refine (callsIn_wide.2 HV.out).mono ?_; rintro e w' ⟨rfl, rfl⟩)
    | (refine ⟨trivial, ?_⟩; gi_at_call 147; refine (callsIn_wide.2 HM.out).mono ?_; rintro e w' ⟨r, rfl, hrn, rfl⟩)
    | (refine ⟨trivial, ?_⟩; gi_at_call 148; refine (callsIn_wide.2 (used_any _ _)).mono ?_; rintro e w' ⟨rfl, rfl⟩))
  have H2 : Hid (Sep B w0 (W1.alloc (.cells #[.pointer (some ⟨d, 0, none⟩)] 71)) (crOs w.heap.size d n rb lay (crAt zs D []) (.slice A m c) os)) := by
    show Sep _ _ _ _
    rw [crAt_nil]
    exact H1.out.newBlk (w.heap.size + 1 + 1) _ _ (by omega)
  rw [← hW1]
  obtain ⟨W2, hW2⟩ : ∃ W2 : World, W2 = W1.alloc (.cells #[.pointer (some ⟨d, 0, none⟩)] 71) := ⟨_, rfl⟩
  rw [← hW2] at H2 ⊢
  have hs2 : W2.heap.size = w.heap.size + 3 := by rw [hW2]; simp; omega
  clear hW1 hW2 HV HM H1
  have hrn' : decide (r < 0) = false := by simp; omega
  have hm1' : decide ((m : Int) < 1) = false := by simp; omega
  have hm2' : decide (34 < (m : Int)) = false := by simp; omega
  simp only [hrn', hm1', hm2', Bool.or_false]
  have HI : Hid (∀ pre X, Sep B w0 X (crOs w.heap.size d n rb lay (crAt zs D pre) (.slice A m c) os) → X.cell? ⟨w.heap.size + 1 + 1, 0, none⟩ = some (.pointer (some ⟨d, 0, none⟩)) ∧ X.cell? ⟨w.heap.size + 1, 0, none⟩ = some (.slice A m c) ∧ X.cell? ⟨w.heap.size, 0, none⟩ = some (.pointer (some ⟨d, 0, none⟩)) ∧ IsDisk X d rb n lay (crAt zs D pre) ∧ Reads X X.heap.size 1 A m (ints zs)) := fun pre X h => by
    have x1 : Blk X (w.heap.size + 1 + 1) 71 #[.pointer (some ⟨d, 0, none⟩)] := h.get (.head _)
    have x2 : Blk X (w.heap.size + 1) 62 #[.slice A m c] := h.get (.tail _ (.head _))
    have x3 : Blk X w.heap.size 71 #[.pointer (some ⟨d, 0, none⟩)] := h.get (.tail _ (.tail _ (.head _)))
    exact ⟨x1.cell 0, x2.cell 0, x3.cell 0, h.get (.tail _ (.tail _ (.tail _ (.head _)))), HR.out X _ (h.sub ((((List.Sublist.refl _).cons _).cons _).cons _))⟩
  refine wpIn_rangeFunc_vis rfl (by omega) (gf := 153) (lb := #[.pointer (some ⟨w.heap.size + 1 + 1, 0, none⟩)]) rfl trivial (enters_of Tryz.func153 (by kernel_rfl) rfl)
    (fun pre X => Sep B w0 X (crOs w.heap.size d n rb lay (crAt zs D pre) (.slice A m c) os))
    (used1_vis 4 (by omega) (w.heap.size + 1 + 1) d n rb D hn hm34 _ W2 (fun pre X hI => ⟨(HI.out pre X hI).1, lay, crAt zs D pre, (HI.out pre X hI).2.2.2.1, fun i _ hi => by simp [crAt, hi]⟩)) (fun _ => rfl)
    (ownFrom_sep (os := fun pre => crOs w.heap.size d n rb lay (crAt zs D pre) (.slice A m c) os) (by omega) (fun pre => crOs_cells HCC.out)) H2.out
    (fun x => { tmps := #[.pointer (some ⟨d, 0, none⟩), .slice A m c, .pointer (some ⟨w.heap.size, 0, none⟩), .pointer (some ⟨w.heap.size + 1, 0, none⟩), .int .i64 0, .int .i64 (x : Int), .bool false, .pointer (some ⟨d, 0, none⟩), .bool true, .bool false, .bool false, .slice A m c, .int .i64 (m : Int), .bool false, .bool false, .slice A m c, .int .i64 (m : Int), .bool false, .bool false, .bool false, .slice A m c, .int .i64 r, .bool false, .bool false, .pointer (some ⟨d, 0, none⟩), .func (.func 153) #[] #[.pointer (some ⟨w.heap.size + 1 + 1, 0, none⟩)], .int .i64 (x : Int), undef, undef, undef, undef, undef, undef, undef, undef, undef, undef, undef, undef, undef, undef, undef, undef], defers := [] }) ?assign ?body ?done
  case assign =>
    intro l x W K hK
    gi_wp2
    exact hK
  case body =>
    rintro l pre x W hs ⟨hpre, hxn, hpos⟩
    obtain ⟨-, q3, q2, hdk, hrd⟩ := HI.out pre W hs
    obtain ⟨A2, c2, qd, k1, k2, hptr⟩ := hdk.cells
    obtain ⟨ad2, rfl, qp⟩ := hptr x hxn
    have hxm : x % m < m := Nat.mod_lt _ (by omega)
    obtain ⟨ad, u, rfl, _, hu, qk⟩ := hrd.at_ hxm
    have hkz : x % m < zs.length := by rw [HL.out]; exact hxm
    rw [ints_at hkz] at hu
    injection hu with hu
    subst hu
    obtain ⟨hz0, hz1⟩ := HK.out _ (List.getElem_mem hkz)
    have hka : keepAt zs x = zs[x % m] := by
      unfold keepAt
      rw [List.getD_eq_getElem?_getD]
      simp only [HL.out]
      rw [List.getElem?_eq_getElem hkz, Option.getD_some]
    obtain ⟨z, hz⟩ : ∃ z, zs[x % m] = z := ⟨_, rfl⟩
    rw [hz] at qk hz0 hz1 hka
    have hnp : x ∉ pre := by rw [hpre]; exact fun e => by have := (usedTo_mem.1 e).1; omega
    have hcx : crAt zs D pre x = D x := by simp [crAt, hnp]
    have hxnum := HD0.out.nums hxn
    have HCR : Hid (Calls Tryz.prog 149 #[.pointer (some ⟨(lay x).1, 0, none⟩), .int .i64 (min z 8192)] W.drew fun e w' => e = .returned (.int .i64 0) ∧ Hid (Sep B w0 w' (crOs w.heap.size d n rb lay (crAt zs D (pre ++ [x])) (.slice (some ad) m c) os) ∧ KeepsOthers W w')) := by
      have himg := hdk.img x hxn
      rw [hcx] at himg
      refine (crash_img himg.drew (min z 8192) (by omega) (by omega)).mono ?_
      rintro e w' ⟨h1, h2, h3⟩
      have hch : Chg (sfoot lay x) W w' := (Chg.refl _ W).drew.trans h3 (fun k _ hk => hk)
      have hx : IsImg w' (lay x).1 (lay x).2 (crashS (keepAt zs x) (D x)).bytes (crashS (keepAt zs x) (D x)).size (crashS (keepAt zs x) (D x)).dur := by
        rw [hka, ← crashS_min hz0 (by omega)]
        exact h2
      obtain ⟨p1, _⟩ := hdk.upd hxn hx hch (fun k hk => .inl hk)
      rw [show updF lay x ((lay x).1, (lay x).2) = lay from by funext j; unfold updF; split <;> simp_all, ← crAt_snoc] at p1
      refine ⟨h1, ?_, keepsOthers_chg hch (img_cells (hdk.img x hxn))⟩
      refine (Sep.step (a := diskOb d rb n lay (crAt zs D pre)) (a' := diskOb d rb n lay (crAt zs D (pre ++ [x]))) (hs.perm (List.perm_middle (l₁ := [_, _, _]))) (hch.mono (fun k _ hk => .inr (.inr ⟨x, hxn, hk⟩))) p1 (fun _ hk => .inl hk)).perm (List.perm_middle (l₁ := [_, _, _])).symm
    have hrem : Int.tmod (x : Int) (m : Int) = ((x % m : Nat) : Int) := by rw [Int.tmod_eq_emod_of_nonneg (by omega)]; omega
    have hm64 : m ≠ 0 := by omega
    have hwz : IntKind.i64.wrap z = z := by rw [IntKind.wrap_i64]; omega
    obtain ⟨y, hy⟩ : ∃ y, x % m = y := ⟨_, rfl⟩
    rw [hy] at qk hxm hrem
    unfold maxLen at k2
    clear hs hpre hpos hdk hptr hrd hka hnp hcx hxnum hz hkz
    obtain ⟨y8, hy8⟩ : ∃ y8, (if 8192 < z then 8192 else z) = y8 := ⟨_, rfl⟩
    rw [show min z 8192 = y8 from by rw [← hy8]; split <;> omega] at HCR
    gi_wp2
    refine wpIn_region_held 27 15 #[.pointer (some ⟨d, 0, none⟩), .slice (some ad) m c, .pointer (some ⟨w.heap.size, 0, none⟩), .pointer (some ⟨w.heap.size + 1, 0, none⟩), .int .i64 0, .int .i64 (x : Int), .bool false, .pointer (some ⟨d, 0, none⟩), .bool true, .bool false, .bool false, .slice (some ad) m c, .int .i64 (m : Int), .bool false, .bool false, .slice (some ad) m c, .int .i64 (m : Int), .bool false, .bool false, .bool false, .slice (some ad) m c, .int .i64 r, .bool false, .bool false, .pointer (some ⟨d, 0, none⟩), .func (.func 153) #[] #[.pointer (some ⟨w.heap.size + 1 + 1, 0, none⟩)], .int .i64 (x : Int),
      .pointer (some ⟨d, 0, none⟩), .pointer (some ⟨d, 0, none⟩), .pointer (some ⟨d, 0, none⟩), .slice (some ad2) n c2, .int .i64 (x : Int), .pointer (some (ad2.add x)), .pointer (some ⟨(lay x).1, 0, none⟩), .slice (some ad) m c, .int .i64 (x : Int), .slice (some ad) m c, .int .i64 (m : Int), .int .i64 (y : Int), .pointer (some (ad.add y)), .int .i64 z, .int .i64 y8, undef] (by kernel_rfl) (by kernel_rfl) rfl (by simp) rfl ?htF ?hval ?hlast
    case htF =>
      intro k h
      iterate 43 (rcases k with _ | k; · first | rfl | (exfalso; omega))
      rfl
    case hval =>
      intro i o hi ho
      iterate 15
        rcases i with _ | i
        · injection ho with ho
          subst ho
          refine ⟨fun f hf => ?_, _, rfl, ?_⟩
          · first | trivial | (simp [Oper.about] at hf)
          · first | go_simp | fail "op"
      omega
    case hlast =>
      intro o ho
      injection ho with ho
      subst ho
      go_simp
      refine ⟨trivial, ?_⟩
      refine (CallsIn.inRound l (callsIn_wide.2 HCR.out)).mono ?_
      rintro e w' ⟨rfl, hp⟩
      exact ⟨hp.out.2, hp.out.1⟩
  case done =>
    rintro D9 xs W hD9 rfl hs hK
    have HS := Lib.hid hs
    have HK9 := Lib.hid hK
    have HDW := Lib.hid hD9
    clear hs hK hD9
    gi_wp2
    refine ⟨by simp, .inl ⟨_, _, rfl, run_takeDeferred HK9.out, ?_⟩⟩
    have h4 : Sep B w0 W (diskOb d rb n lay (crAt zs D (usedTo D n)) :: os) := HS.out.sub ((((List.Sublist.refl _).cons _).cons _).cons _)
    have h5 : Sep B w0 (W.putObj D9 (.deferred none)) (diskOb d rb n lay (crAt zs D (usedTo D n)) :: os) :=
      h4.others (AllCells.cons (cellOb_disk _ _ _ _ _) HCC.out) (grownBy_putObj' W D9 (.deferred none)) (fun r e => by cases e; exact ⟨by have := HDW.out; omega, _, HK9.out, rfl⟩)
    have h6 : Sep B w0 (W.putObj D9 (.deferred none)) (diskOb d rb n lay (crashD zs D) :: os) :=
      h5.step (a' := diskOb d rb n lay (crashD zs D)) (Chg.refl _ _) (HD0.out.crashed (h5.get (.head _))) (fun _ hk => .inl hk)
    exact ⟨.int .i64 0, by simp [results, Tryz.f121, go_sem], rfl, h6⟩
end
end Go.Proofs.YtnopljanpjmbgaaGreat

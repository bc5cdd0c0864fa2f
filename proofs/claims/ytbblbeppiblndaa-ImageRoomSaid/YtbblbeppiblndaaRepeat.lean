/-
  The walk of bytes.Repeat at one byte and at most 65536 copies; math/bits.Mul at 1. Condition: the byte can be read.
-/
import Derived.Test.YtbblbeppiblndaaClear
import Derived.Test.YtbblbeppiblndaaLaws
import Derived.Lib.MakeNoZero
import Derived.Lib.SlBuf
import Derived.Laws.MathBits
import Derived.Deep.RegionLaw
namespace Go.Proofs.Ytbblbeppiblndaa
open Go.RowKit
set_option linter.unusedVariables false
set_option maxHeartbeats 1000000 in
theorem mul64_one (k : Nat) (hk : k < 4294967296) (w : World) :
    Calls Try.prog 46 #[.int .u64 1, .int .u64 (k : Int)] w fun e w' => e = .returned (.tuple #[.int .u64 0, .int .u64 (k : Int)]) ∧ w = w' := by
  have h1 := and_low32 (k : Int) (by omega) (by omega)
  have h2 : (k : Int) % 4294967296 = (k : Int) := by omega
  have h3 : (k : Int) / 4294967296 = 0 := by omega
  have h4 := and_low32 1 (by omega) (by omega)
  rw [h2] at h1
  go_enter Try.func46, Try.ntmps46
  go_wp2
  go_ret2
  have h5 := and_low32 0 (by omega) (by omega)
  have h6 : IntKind.u64.wrap 0 = 0 := by rfl
  exact ⟨by simp [h5, h6], rfl⟩
theorem mul_one' (k : Nat) (hk : k < 4294967296) (w : World) :
    Calls Try.prog 43 #[.int .u64 1, .int .u64 (k : Int)] w fun e w' => e = .returned (.tuple #[.int .u64 0, .int .u64 (k : Int)]) ∧ w = w' := by
  go_enter Try.func43, Try.ntmps43
  go_wp2_with (go_at_call 46; refine (mul64_one k hk _).mono ?_; rintro e w' ⟨rfl, rfl⟩)
  go_ret2
  exact ⟨rfl, rfl⟩
theorem step_copy_run {P : Program} (w : World) {ops : Array Oper} {o : Oper} {a : Act} {K : Act → World → Prop} {Q : Exit → Act → World → Prop} {E : Prop} (hgd : o.guard = none) (d s : Operand) (t t' : TypeId)
    (ho : o.op = .call { callee := .builtin .copy, args := #[d, s], argTypes := #[t, t'] }) (v u : Value) (hd : a.eval d = v) (hs : a.eval s = u) {v' : Value} {w' : World}
    (hr : (Builtin.copy_ #[t, t'] o.type #[v, u]).run P w = .ok v' w') (h : K (a.put o.dst v') w') :
    if Region.wanted o (yielded ops a.tmps) = true then Oper.wp P o a w K Q else E := by
  have hw : Region.wanted o (yielded ops a.tmps) = true := by simp [Region.wanted, hgd]
  rw [if_pos hw]
  exact Lib.wp_copy_run w d s t t' ho v u hd hs hr h
/-- A row of bytes that begins a block of the call's own. -/
def RowAt (w : World) (h : Nat) (v : Value) (l : List (BitVec 8)) : Prop :=
  v = .slice (some ⟨h, 0, none⟩) l.length l.length ∧ ∃ cs, Blk w h 5 cs ∧ l.length ≤ cs.size ∧ ∀ j, j < l.length → cs[j]? = (u8s l)[j]?
theorem RowAt.reads {w : World} {h : Nat} {v : Value} {l : List (BitVec 8)} (hr : RowAt w h v l) : Reads w w.heap.size 1 (some ⟨h, 0, none⟩) l.length (u8s l) := by
  obtain ⟨_, cs, hb, hl, hc⟩ := hr
  refine ⟨by rw [u8s_length, Nat.mul_one], fun _ => ⟨_, rfl, hb.lt, fun j u hu => ?_⟩⟩
  have hj : j < l.length := by have := (List.getElem?_eq_some_iff.1 hu).1; rwa [u8s_length] at this
  rw [add_zero_addr, hb.cell, hc j hj]; exact hu
theorem RowAt.holds {w : World} {h : Nat} {v : Value} {l : List (BitVec 8)} (hr : RowAt w h v l) (hm : l.length ≤ maxLen) : Holds w v l :=
  ⟨_, l.length, l.length, hr.1, rfl, Nat.le_refl _, hm, hr.reads⟩
/-- Copies of one byte, so far. -/
def reps (k : Nat) (b : BitVec 8) : List (BitVec 8) := List.replicate k b
theorem reps_length (k : Nat) (b : BitVec 8) : (reps k b).length = k := by simp [reps]
theorem reps_at (k : Nat) (b : BitVec 8) (j : Nat) (h : j < k) : (u8s (reps k b))[j]? = some (.int .u8 (n8 b)) := by
  rw [u8s_get (by rw [reps_length]; exact h)]; simp [reps]
/-- copy of c of the copies behind the first p. -/
theorem run_copy_reps {w : World} {h p c k : Nat} {cs : Array Value} {b : BitVec 8} (hb : Blk w h 5 cs) (hk : k ≤ cs.size) (hp : ∀ j, j < p → cs[j]? = some (.int .u8 (n8 b))) (hpk : p + c ≤ k) (A : Addr) (sl sc dl : Nat)
    (hA : ∀ j, j < c → w.cell? (A.add j) = some (.int .u8 (n8 b))) (hmin : min sl dl = c) (ty : TypeId) :
    ∃ w' cs', (Builtin.copy_ #[25, 25] ty #[.slice (some ⟨h, p, none⟩) dl dl, .slice (some A) sl sc]).run Try.prog w = .ok (.int .i64 (c : Int)) w' ∧ Blk w' h 5 cs' ∧ cs'.size = cs.size ∧ (∀ j, j < p + c → cs'[j]? = some (.int .u8 (n8 b))) ∧ Chg (fun k => k = h) w w' := by
  obtain ⟨cs', h1, h2, h3, h4⟩ := setCells_blk h 5 (List.replicate c (.int .u8 (n8 b))) p w cs hb (by simp; omega)
  have hrun := run_copy_cells (P := Try.prog) w 25 25 ty 5 h p dl dl A sl sc (List.replicate c (.int .u8 (n8 b))) Try.underlying25 (by kernel_rfl) (by simp only [List.length_replicate]; exact hmin.symm)
    (fun j v hv => by
      rw [List.getElem?_replicate] at hv
      split at hv
      · rename_i hj; rw [hA j hj]; exact hv
      · cases hv)
    (fun j hj => by
      rw [List.length_replicate] at hj
      rw [hb.cell, Array.getElem?_eq_getElem (by omega)]; rfl) (fun j hj => hb.frozen _) (fun v hv => by rw [List.eq_of_mem_replicate hv]; rfl)
  rw [List.length_replicate] at hrun
  refine ⟨_, cs', hrun, h1, h2, fun j hj => ?_, h4.mono (fun i hi e => by injection e with e; exact e.symm)⟩
  rw [h3 j, List.length_replicate]
  by_cases hj2 : p ≤ j ∧ j < p + c
  · rw [if_pos hj2, List.getElem?_replicate, if_pos (by omega)]
  · rw [if_neg hj2]; exact hp j (by omega)
set_option maxHeartbeats 2000000 in
theorem repeat_any {w : World} {A : Addr} {c : Nat} {b : BitVec 8} (hA : A.block < w.heap.size) (hcell : w.cell? A = some (.int .u8 (n8 b))) (k : Nat) (hk : k ≤ 8192) :
    Calls Try.prog 32 #[.slice (some A) 1 c, .int .i64 (k : Int)] w fun e w' => ∃ h v, e = .returned v ∧ RowAt w' h v (reps k b) ∧ w.heap.size ≤ h ∧ Below w.heap.size w w' := by
  rcases Nat.eq_zero_or_pos k with hk0 | hpos
  · subst hk0
    go_enter Try.func32, Try.ntmps32
    go_wp2
    go_ret
    exact ⟨w.heap.size, _, rfl, ⟨rfl, #[], Blk.new _ _ _, by simp [reps], fun j hj => by simp [reps] at hj⟩, Nat.le_refl _, (Below.refl _ _).alloc (Nat.le_refl _) _⟩
  · have hk1 : ¬ k = 0 := by omega
    obtain ⟨cs, hrunM, hle, hmx⟩ := Lib.run_makeNoZero (P := Try.prog) w #[3] 25 5 Try.underlying25 k (by omega)
    have hcall : (callFunc 44 #[.int .i64 (k : Int)]).run Try.prog w = .ok (.value (.slice (some ⟨w.heap.size, 0, none⟩) k cs.size)) (w.drew.drew.alloc (.cells cs 5)) := by
      rw [run_callFunc_extern Try.func44 (by kernel_rfl) (by kernel_rfl) (by kernel_rfl) (e := Extern.BytealgMakeNoZero.makeNoZero #[3] #[25]) (by kernel_rfl), hrunM]
      rfl
    have hmx' := hmx (by unfold maxLen; omega)
    unfold maxLen at hmx'
    clear hrunM hmx
    go_enter Try.func32, Try.ntmps32
    have hbl0 : Blk (w.alloc (.cells cs 5)).drew.drew w.heap.size 5 cs := Blk.new w _ _
    obtain ⟨w1, cs1, hr1, hb1, hsz1, hat1, hch1⟩ := run_copy_reps (b := b) (p := 0) (c := 1) (k := k) hbl0 hle (fun j hj => absurd hj (by omega)) (by omega) A 1 c k
      (fun j hj => by
        have : j = 0 := by omega
        subst this
        show (w.alloc (.cells cs 5)).cell? (A.add 0) = _
        rw [show A.add 0 = A from by simp [Addr.add], World.cell?_alloc_lt w _ _ hA]; exact hcell) (by omega) 3
    have HB1 := Lib.hid hb1
    have HS1 := Lib.hid hsz1
    have HAT1 := Lib.hid hat1
    have HBE1 : Hid (Below w.heap.size w w1) := (((Below.refl _ _).alloc (Nat.le_refl _) (.cells cs 5)).drew.drew).trans (hch1.below (by simp) (fun k hk => by omega))
    clear hb1 hsz1 hat1 hch1 hbl0
    go_wp2_with (first
      | (go_at_call 43; refine (mul_one' k (by omega) _).mono ?_; rintro e w' ⟨rfl, rfl⟩)
      | (refine Lib.wpList_copy_run _ rfl (.tmp 58) (.tmp 59) 25 25 rfl _ _ rfl rfl hr1 ?_))
    clear hr1 hcall
    go_loopg [10] k (fun q v10 wr => ∃ (p : Nat) (cs' : Array Value), k ≤ p + q ∧ 1 ≤ p ∧ p ≤ k ∧ v10 = .int .i64 p ∧ Blk wr w.heap.size 5 cs' ∧ k ≤ cs'.size ∧ (∀ j, j < p → cs'[j]? = some (.int .u8 (n8 b))) ∧ Below w.heap.size w wr)
    case atStart => exact ⟨1, cs1, by omega, Nat.le_refl _, by omega, rfl, HB1.out, by rw [HS1.out]; exact hle, HAT1.out, HBE1.out⟩
    case round =>
      obtain ⟨p, cs', hq, hp1, hpk, rfl, hb, hsz, hat, hbel⟩ := hrel
      have HB := Lib.hid hb
      have HAT := Lib.hid hat
      have HBE := Lib.hid hbel
      have HQ := Lib.hid hq
      by_cases hlt : p < k
      · have HN3 : Hid (min (p : Int) (k : Int) = (p : Int)) := by show _ = _; omega
        have hkp : ¬ k = p := by omega
        have hkp2 : ¬ k = 0 + p := by omega
        obtain ⟨cc, hcc⟩ : ∃ cc, min p (k - p) = cc := ⟨_, rfl⟩
        have hcc2 : 1 ≤ cc ∧ p + cc ≤ k ∧ cc ≤ p := by omega
        have hbd : Blk wr.drew w.heap.size 5 cs' := hb
        obtain ⟨w2, cs2, hr2, hb2, hsz2, hat2, hch2⟩ := run_copy_reps (b := b) (p := p) (c := cc) (k := k) hbd hsz hat hcc2.2.1 ⟨w.heap.size, 0, none⟩ p k (k - p)
          (fun j hj => by rw [add_zero_addr, hbd.cell]; exact hat j (by omega)) hcc 3
        have HB2 := Lib.hid hb2
        have HS2 : Hid (k ≤ cs2.size) := by show _ ≤ _; omega
        have HAT2 := Lib.hid hat2
        have HR2 := Lib.hid hr2
        have HBE2 : Hid (Below w.heap.size w w2) := hbel.trans ⟨hch2.os, hch2.tape, hch2.output, hch2.size, fun i hi => hch2.block i (by have := hbel.size; show i < wr.heap.size; omega) (by omega)⟩
        clear hb hat hbel hq hcc hbd hb2 hsz2 hat2 hch2
        go_wp2_with fail
        rw [HN3.out]
        go_region
        all_goals
          go_wp2
          go_roundg (gk - 1)
          case measure => have := HQ.out; omega
          case rel => exact ⟨p + cc, cs2, by have := HQ.out; omega, by omega, by omega, by go_num, HB2.out, HS2.out, HAT2.out, HBE2.out⟩
      · have e8 : p = k := by omega
        subst e8
        clear hb hat hbel hq
        go_wp2
        go_ret
        exact ⟨w.heap.size, _, rfl, ⟨by rw [reps_length]; rfl, cs', HB.out, by rw [reps_length]; exact hsz, fun j hj => by rw [reps_length] at hj; rw [HAT.out j hj, reps_at _ _ _ hj]⟩, Nat.le_refl _, HBE.out⟩
end Go.Proofs.Ytbblbeppiblndaa

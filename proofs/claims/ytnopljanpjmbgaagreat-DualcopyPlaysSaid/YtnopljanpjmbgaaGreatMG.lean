/-
  The builtin clear on a byte slice of the call's own; images and byte slices behind a change that touches neither; The walk of bytes.Repeat at one byte and at most 65536 copies; math/bits.Mul at 1; The walk of slices.Repeat at one number and at most 65536 copies.
-/
import Derived.Test.YtnopljanpjmbgaaGreatMB
import Derived.Lib.SliceRun
import Derived.Test.YtnopljanpjmbgaaGreatMA
import Derived.Lib.MakeNoZero
import Derived.Lib.SlBuf
import Derived.Laws.MathBits
import Derived.Deep.RegionLaw
import Derived.Test.YtnopljanpjmbgaaGreatMF
namespace Go.Proofs.YtnopljanpjmbgaaGreat
open Go.RowKit
set_option linter.unusedVariables false
theorem setCells_blk (g : Nat) (t : TypeId) : ∀ (vs : List Value) (o : Nat) (w : World) (cs : Array Value), Blk w g t cs → o + vs.length ≤ cs.size →
    ∃ cs' : Array Value, Blk (w.setCells g o vs) g t cs' ∧ cs'.size = cs.size ∧ (∀ j, cs'[j]? = if o ≤ j ∧ j < o + vs.length then vs[j - o]? else cs[j]?) ∧ Chg (fun k => some g = some k) w (w.setCells g o vs) := by
  intro vs
  induction vs with
  | nil =>
    intro o w cs h _
    exact ⟨cs, h, rfl, fun j => by rw [if_neg (by simp)], Chg.refl _ _⟩
  | cons v vs ih =>
    intro o w cs h hl
    simp only [List.length_cons] at hl
    obtain ⟨cs', h1, h2, h3, h4⟩ := ih (o + 1) _ _ (h.set_ o v) (by simp; omega)
    refine ⟨cs', h1, by rw [h2]; simp, fun j => ?_, ((Chg.refl (fun k => some g = some k) w).setCell (p := ⟨g, o, none⟩) (.inl rfl) v).trans h4 (fun _ _ h => h)⟩
    rw [h3 j]
    simp only [List.length_cons]
    by_cases hj : o + 1 ≤ j ∧ j < o + 1 + vs.length
    · rw [if_pos hj, if_pos (by omega), show j - o = (j - (o + 1)) + 1 by omega, List.getElem?_cons_succ]
    · rw [if_neg hj]
      by_cases he : j = o
      · subst he
        rw [if_pos (by omega), Nat.sub_self]
        simp [show j < cs.size by omega]
      · rw [if_neg (by omega)]
        simp [Ne.symm he]
theorem run_clear_own {w : World} {B : Nat} {v : Value} {l : List (BitVec 8)} (h : Own8 w B v l) (ty : TypeId) :
    ∃ w', (Builtin.clear_ #[23] ty #[v]).run Tryz.prog w = .ok (.tuple #[]) w' ∧ Own8 w' B v (zbytes l.length) ∧ Chg (fun k => v.ownBlock = some k) w w' := by
  rcases h.2 with ⟨rfl, hl⟩ | ⟨g, cap, cur, rfl, hB, hblk, h1, h2, h3, h4⟩
  · refine ⟨w, by simp [Builtin.clear_, run_underlying Tryz.underlying23], ⟨by rw [u8s_length, Nat.mul_one], .inl ⟨rfl, by rw [zbytes_length]; exact hl⟩⟩, Chg.refl _ _⟩
  · by_cases h0 : l.length = 0
    · have hl : l = [] := List.length_eq_zero_iff.1 h0
      subst hl
      refine ⟨w, by simp [Builtin.clear_, run_underlying Tryz.underlying23], h, Chg.refl _ _⟩
    · have hz : ∀ w, (zeroValue 5).run Tryz.prog w = .ok (.int .u8 0) w := fun w => by kernel_rfl
      have hblk' : Blk w g 5 cur := hblk
      obtain ⟨cs', b1, b2, b3, b4⟩ := setCells_blk g 5 (List.replicate l.length (.int .u8 0)) 0 w cur hblk' (by simp; omega)
      have hrun := Lib.run_clear_slice (P := Tryz.prog) w 23 5 ty (.int .u8 0) Tryz.underlying23 hz rfl rfl g 0 l.length cap (by omega)
        (fun j hj => by rw [hblk'.cell, Array.getElem?_eq_getElem (by omega)]; rfl) (fun j hj => hblk'.frozen _)
      refine ⟨_, hrun, ⟨by rw [u8s_length, Nat.mul_one], .inr ⟨g, cap, cs', by rw [zbytes_length], hB, b1, by rw [zbytes_length]; exact h1, h2, by rw [b2]; exact h3, ?_⟩⟩, b4⟩
      apply List.ext_getElem?
      intro j
      rw [zbytes_length, Nat.mul_one, List.getElem?_take]
      have hz8 : ∀ j, j < l.length → (u8s (zbytes l.length))[j]? = some (.int .u8 0) := fun j hj => by
        rw [u8s_get (by rw [zbytes_length]; exact hj)]; simp [zbytes, n8]
      by_cases hj : j < l.length
      · rw [if_pos hj, hz8 j hj]
        have := b3 j
        rw [if_pos (by simp; omega)] at this
        rw [Array.getElem?_toList, this, Nat.sub_zero]
        simp [hj]
      · rw [if_neg hj, List.getElem?_eq_none (by rw [u8s_length, zbytes_length]; omega)]
theorem St.touch {F : Nat → Prop} {B : Nat} {w0 w w' : World} {g : Nat} {fb : Option Nat} {l : List (BitVec 8)} {size dur : Nat} {vs : List (Value × List (BitVec 8))} (h : St B w0 w g fb l size dur vs) (hc : Chg F w w') (hF : ∀ k, F k → B ≤ k ∧ ¬ foot g fb k)
    (vs' : List (Value × List (BitVec 8))) (hv : ∀ p ∈ vs', p ∈ vs ∧ ∀ k, p.1.ownBlock = some k → ¬ F k) : St B w0 w' g fb l size dur vs' := by
  refine ⟨h.img.chg hc (fun k hk e => (hF k e).2 hk), h.base, ?_, Nat.le_trans h.big hc.size, fun p hp => ?_⟩
  · exact h.bel.trans ⟨hc.os, hc.tape, hc.output, hc.size, fun k hk => hc.block k (by have := h.big; omega) (fun e => by have := (hF k e).1; omega)⟩
  · obtain ⟨h1, h2⟩ := hv p hp
    exact ⟨own_chg (h.held p h1).1 hc h2, (h.held p h1).2⟩
end Go.Proofs.YtnopljanpjmbgaaGreat
namespace Go.Proofs.YtnopljanpjmbgaaGreat
open Go.RowKit
set_option linter.unusedVariables false
set_option maxHeartbeats 1000000 in
theorem mul64_one (k : Nat) (hk : k < 4294967296) (w : World) :
    Calls Tryz.prog 137 #[.int .u64 1, .int .u64 (k : Int)] w fun e w' => e = .returned (.tuple #[.int .u64 0, .int .u64 (k : Int)]) ∧ w = w' := by
  have h1 := and_low32 (k : Int) (by omega) (by omega)
  have h2 : (k : Int) % 4294967296 = (k : Int) := by omega
  have h3 : (k : Int) / 4294967296 = 0 := by omega
  have h4 := and_low32 1 (by omega) (by omega)
  rw [h2] at h1
  go_enter Tryz.func137, Tryz.ntmps137
  go_wp2
  go_ret2
  have h5 := and_low32 0 (by omega) (by omega)
  have h6 : IntKind.u64.wrap 0 = 0 := by rfl
  exact ⟨by simp [h5, h6], rfl⟩
theorem mul_one' (k : Nat) (hk : k < 4294967296) (w : World) :
    Calls Tryz.prog 102 #[.int .u64 1, .int .u64 (k : Int)] w fun e w' => e = .returned (.tuple #[.int .u64 0, .int .u64 (k : Int)]) ∧ w = w' := by
  go_enter Tryz.func102, Tryz.ntmps102
  go_wp2_with (go_at_call 137; refine (mul64_one k hk _).mono ?_; rintro e w' ⟨rfl, rfl⟩)
  go_ret2
  exact ⟨rfl, rfl⟩
theorem step_copy_run {P : Program} (w : World) {ops : Array Oper} {o : Oper} {a : Act} {K : Act → World → Prop} {Q : Exit → Act → World → Prop} {E : Prop} (hgd : o.guard = none) (d s : Operand) (t t' : TypeId)
    (ho : o.op = .call { callee := .builtin .copy, args := #[d, s], argTypes := #[t, t'] }) (v u : Value) (hd : a.eval d = v) (hs : a.eval s = u) {v' : Value} {w' : World}
    (hr : (Builtin.copy_ #[t, t'] o.type #[v, u]).run P w = .ok v' w') (h : K (a.put o.dst v') w') :
    if Region.wanted o (yielded ops a.tmps) = true then Oper.wp P o a w K Q else E := by
  have hw : Region.wanted o (yielded ops a.tmps) = true := by simp [Region.wanted, hgd]
  rw [if_pos hw]
  exact Lib.wp_copy_run w d s t t' ho v u hd hs hr h
/-- A row of bytes that begins a block of the call's own. -/
def RowAt (w : World) (h : Nat) (v : Value) (l : List (BitVec 8)) : Prop :=
  v = .slice (some ⟨h, 0, none⟩) l.length l.length ∧ ∃ cs, Blk w h 5 cs ∧ l.length ≤ cs.size ∧ ∀ j, j < l.length → cs[j]? = (u8s l)[j]?
theorem RowAt.reads {w : World} {h : Nat} {v : Value} {l : List (BitVec 8)} (hr : RowAt w h v l) : Reads w w.heap.size 1 (some ⟨h, 0, none⟩) l.length (u8s l) := by
  obtain ⟨_, cs, hb, hl, hc⟩ := hr
  refine ⟨by rw [u8s_length, Nat.mul_one], fun _ => ⟨_, rfl, hb.lt, fun j u hu => ?_⟩⟩
  have hj : j < l.length := by have := (List.getElem?_eq_some_iff.1 hu).1; rwa [u8s_length] at this
  rw [add_zero_addr, hb.cell, hc j hj]; exact hu
theorem RowAt.holds {w : World} {h : Nat} {v : Value} {l : List (BitVec 8)} (hr : RowAt w h v l) (hm : l.length ≤ maxLen) : Holds w v l :=
  ⟨_, l.length, l.length, hr.1, rfl, Nat.le_refl _, hm, hr.reads⟩
/-- Copies of one byte, so far. -/
def reps (k : Nat) (b : BitVec 8) : List (BitVec 8) := List.replicate k b
theorem reps_length (k : Nat) (b : BitVec 8) : (reps k b).length = k := by simp [reps]
theorem reps_at (k : Nat) (b : BitVec 8) (j : Nat) (h : j < k) : (u8s (reps k b))[j]? = some (.int .u8 (n8 b)) := by
  rw [u8s_get (by rw [reps_length]; exact h)]; simp [reps]
set_option maxRecDepth 20000 in
/-- copy of c of the copies behind the first p. -/
theorem run_copy_reps {w : World} {h p c k : Nat} {cs : Array Value} {b : BitVec 8} (hb : Blk w h 5 cs) (hk : k ≤ cs.size) (hp : ∀ j, j < p → cs[j]? = some (.int .u8 (n8 b))) (hpk : p + c ≤ k) (A : Addr) (sl sc dl : Nat)
    (hA : ∀ j, j < c → w.cell? (A.add j) = some (.int .u8 (n8 b))) (hmin : min sl dl = c) (ty : TypeId) :
    ∃ w' cs', (Builtin.copy_ #[23, 23] ty #[.slice (some ⟨h, p, none⟩) dl dl, .slice (some A) sl sc]).run Tryz.prog w = .ok (.int .i64 (c : Int)) w' ∧ Blk w' h 5 cs' ∧ cs'.size = cs.size ∧ (∀ j, j < p + c → cs'[j]? = some (.int .u8 (n8 b))) ∧ Chg (fun k => k = h) w w' := by
  obtain ⟨cs', h1, h2, h3, h4⟩ := setCells_blk h 5 (List.replicate c (.int .u8 (n8 b))) p w cs hb (by simp; omega)
  have hrun := run_copy_cells (P := Tryz.prog) w 23 23 ty 5 h p dl dl A sl sc (List.replicate c (.int .u8 (n8 b))) Tryz.underlying23 (by kernel_rfl) (by simp only [List.length_replicate]; exact hmin.symm)
    (fun j v hv => by
      rw [List.getElem?_replicate] at hv
      split at hv
      · rename_i hj; rw [hA j hj]; exact hv
      · cases hv)
    (fun j hj => by
      rw [List.length_replicate] at hj
      rw [hb.cell, Array.getElem?_eq_getElem (by omega)]; rfl) (fun j hj => hb.frozen _) (fun v hv => by rw [List.eq_of_mem_replicate hv]; rfl)
  rw [List.length_replicate] at hrun
  refine ⟨_, cs', hrun, h1, h2, fun j hj => ?_, h4.mono (fun i hi e => by injection e with e; exact e.symm)⟩
  rw [h3 j, List.length_replicate]
  by_cases hj2 : p ≤ j ∧ j < p + c
  · rw [if_pos hj2, List.getElem?_replicate, if_pos (by omega)]
  · rw [if_neg hj2]; exact hp j (by omega)
end Go.Proofs.YtnopljanpjmbgaaGreat
namespace Go.Proofs.YtnopljanpjmbgaaGreat
open Go.RowKit
set_option linter.unusedVariables false
theorem make_ints (k : Nat) (hk : k ≤ 65536) (w : World) :
    (Instr.makeSlice 62 (.int .i64 (k : Int)) (.int .i64 (k : Int))).run Tryz.prog w = .ok (.slice (some ⟨w.heap.size, 0, none⟩) k k) (w.alloc (.cells (List.replicate k (Value.int .i64 0)).toArray 3)) := by
  obtain ⟨i0, hi0, hz0, hsz, hz2⟩ := info_parts clone_int_info
  have hr := run_make (P := Tryz.prog) w 62 3 i0 _ Tryz.underlying62 hi0 hz0 .i64 .i64 k k (by omega) (by omega) (by rw [hz2]; omega) (by omega)
  rw [Int.toNat_natCast, hsz] at hr
  rw [hr, show (Value.int .i64 0).cells = #[Value.int .i64 0] from rfl, Nat.mul_one]
  have : madeCells #[Value.int .i64 0] k = (List.replicate k (Value.int .i64 0)).toArray := by
    apply Array.toList_inj.1
    rw [toList_madeCells_one]
  rw [this]
def zeroI (k : Nat) : Array Value := (List.replicate k (Value.int .i64 0)).toArray
set_option maxRecDepth 20000 in
/-- copy of c of the copies behind the first p. -/
theorem run_copy_ints {w : World} {h p c k : Nat} {cs : Array Value} {b : Int} (hb : Blk w h 3 cs) (hk : k ≤ cs.size) (hp : ∀ j, j < p → cs[j]? = some (.int .i64 b)) (hpk : p + c ≤ k) (A : Addr) (sl sc dl : Nat)
    (hA : ∀ j, j < c → w.cell? (A.add j) = some (.int .i64 b)) (hmin : min sl dl = c) (ty : TypeId) :
    ∃ w' cs', (Builtin.copy_ #[62, 62] ty #[.slice (some ⟨h, p, none⟩) dl dl, .slice (some A) sl sc]).run Tryz.prog w = .ok (.int .i64 (c : Int)) w' ∧ Blk w' h 3 cs' ∧ cs'.size = cs.size ∧ (∀ j, j < p + c → cs'[j]? = some (.int .i64 b)) ∧ Chg (fun k => k = h) w w' := by
  obtain ⟨cs', h1, h2, h3, h4⟩ := setCells_blk h 3 (List.replicate c (.int .i64 b)) p w cs hb (by simp; omega)
  have hrun := run_copy_cells (P := Tryz.prog) w 62 62 ty 3 h p dl dl A sl sc (List.replicate c (.int .i64 b)) Tryz.underlying62 (by kernel_rfl) (by simp only [List.length_replicate]; exact hmin.symm)
    (fun j v hv => by
      rw [List.getElem?_replicate] at hv
      split at hv
      · rename_i hj; rw [hA j hj]; exact hv
      · cases hv)
    (fun j hj => by
      rw [List.length_replicate] at hj
      rw [hb.cell, Array.getElem?_eq_getElem (by omega)]; rfl) (fun j hj => hb.frozen _) (fun v hv => by rw [List.eq_of_mem_replicate hv]; rfl)
  rw [List.length_replicate] at hrun
  refine ⟨_, cs', hrun, h1, h2, fun j hj => ?_, h4.mono (fun i hi e => by injection e with e; exact e.symm)⟩
  rw [h3 j, List.length_replicate]
  by_cases hj2 : p ≤ j ∧ j < p + c
  · rw [if_pos hj2, List.getElem?_replicate, if_pos (by omega)]
  · rw [if_neg hj2]; exact hp j (by omega)
set_option maxRecDepth 20000 in
set_option maxHeartbeats 4000000 in
theorem irepeat_any {w : World} {A : Addr} {c : Nat} {b : Int} (hA : A.block < w.heap.size) (hcell : w.cell? A = some (.int .i64 b)) (k : Nat) (hk : k ≤ 8192) (hpos : 1 ≤ k) :
    Calls Tryz.prog 52 #[.slice (some A) 1 c, .int .i64 (k : Int)] w fun e w' => ∃ cs, e = .returned (.slice (some ⟨w.heap.size, 0, none⟩) k k) ∧ Blk w' w.heap.size 3 cs ∧ cs.size = k ∧ (∀ j, j < k → cs[j]? = some (.int .i64 b)) ∧ Below w.heap.size w w' := by
  have hk1 : ¬ k = 0 := by omega
  have HM := fun W => make_ints k (by omega) W
  have hz : (List.replicate k (Value.int .i64 0)).toArray = zeroI k := rfl
  rw [hz] at HM
  have hzs : (zeroI k).size = k := by simp [zeroI]
  have hbl0 : Blk (w.alloc (.cells (zeroI k) 3)) w.heap.size 3 (zeroI k) := Blk.new w _ _
  obtain ⟨w1, cs1, hr1, hb1, hsz1, hat1, hch1⟩ := run_copy_ints (b := b) (p := 0) (c := 1) (k := k) hbl0 (Nat.le_of_eq hzs.symm) (fun j hj => absurd hj (by omega)) (by omega) A 1 c k
    (fun j hj => by
      have : j = 0 := by omega
      subst this
      show (w.alloc (.cells (zeroI k) 3)).cell? (A.add 0) = _
      rw [show A.add 0 = A from by simp [Addr.add], World.cell?_alloc_lt w _ _ hA]; exact hcell) (by omega) 3
  have HB1 := Lib.hid hb1
  have HS1 := Lib.hid (hsz1.trans hzs)
  have HAT1 := Lib.hid hat1
  have HBE1 : Hid (Below w.heap.size w w1) := ((Below.refl _ _).alloc (Nat.le_refl _) (.cells (zeroI k) 3)).trans (hch1.below (by simp) (fun k hk => by omega))
  clear hb1 hsz1 hat1 hch1 hbl0 hz hzs
  go_enter Tryz.func52, Tryz.ntmps52
  go_wp2_with (first
    | (go_at_call 102; refine (mul_one' k (by omega) _).mono ?_; rintro e w' ⟨rfl, rfl⟩))
  clear hr1
  go_loopg [8] k (fun q v8 wr => ∃ (p : Nat) (cs' : Array Value), k ≤ p + q ∧ 1 ≤ p ∧ p ≤ k ∧ v8 = .int .i64 p ∧ Blk wr w.heap.size 3 cs' ∧ cs'.size = k ∧ (∀ j, j < p → cs'[j]? = some (.int .i64 b)) ∧ Below w.heap.size w wr)
  case atStart => exact ⟨1, cs1, by omega, Nat.le_refl _, by omega, rfl, HB1.out, HS1.out, HAT1.out, HBE1.out⟩
  case round =>
    obtain ⟨p, cs', hq, hp1, hpk, rfl, hb, hsz, hat, hbel⟩ := hrel
    have HB := Lib.hid hb
    have HAT := Lib.hid hat
    have HBE := Lib.hid hbel
    have HQ := Lib.hid hq
    have HSZ := Lib.hid hsz
    by_cases hlt : p < k
    · have HN3 : Hid (min (p : Int) (k : Int) = (p : Int)) := by show _ = _; omega
      have hkp : ¬ k = p := by omega
      have hkp2 : ¬ k = 0 + p := by omega
      obtain ⟨cc, hcc⟩ : ∃ cc, min p (k - p) = cc := ⟨_, rfl⟩
      have hcc2 : 1 ≤ cc ∧ p + cc ≤ k ∧ cc ≤ p := by omega
      have hbd : Blk wr.drew w.heap.size 3 cs' := hb
      obtain ⟨w2, cs2, hr2, hb2, hsz2, hat2, hch2⟩ := run_copy_ints (b := b) (p := p) (c := cc) (k := k) hbd (by omega) hat hcc2.2.1 ⟨w.heap.size, 0, none⟩ p k (k - p)
        (fun j hj => by rw [add_zero_addr, hbd.cell]; exact hat j (by omega)) hcc 3
      have HB2 := Lib.hid hb2
      have HS2 : Hid (cs2.size = k) := by show _ = _; omega
      have HAT2 := Lib.hid hat2
      have HBE2 : Hid (Below w.heap.size w w2) := hbel.trans ⟨hch2.os, hch2.tape, hch2.output, hch2.size, fun i hi => hch2.block i (by have := hbel.size; show i < wr.heap.size; omega) (by omega)⟩
      clear hb hat hbel hq hcc hbd hb2 hsz2 hat2 hch2 hsz
      go_wp2_with fail
      go_region
      all_goals
        go_wp2
        go_roundg (gk - 1)
        case measure => have := HQ.out; omega
        case rel => exact ⟨p + cc, cs2, by have := HQ.out; omega, by omega, by omega, by go_num, HB2.out, HS2.out, HAT2.out, HBE2.out⟩
    · have e8 : p = k := by omega
      subst e8
      clear hb hat hbel hq hsz
      go_wp2
      go_ret
      exact ⟨cs', rfl, HB.out, HSZ.out, HAT.out, HBE.out⟩
end Go.Proofs.YtnopljanpjmbgaaGreat

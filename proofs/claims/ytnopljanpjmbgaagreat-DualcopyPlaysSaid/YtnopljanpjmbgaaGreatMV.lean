/-
  A device and the document's side by side: the two copies' calls on the one and on the other, with results that are the same plain functions; A device and the document's side by side: New, Arm with a plan that the call has built, and the calls of one step; The walk of the dualcopy law's shows: a device and the document's, side by side; The steps of the law DualcopyPlays as data.
-/
import Derived.Test.YtnopljanpjmbgaaGreatMU
import Derived.Test.YtnopljanpjmbgaaGreatMT
import Derived.Test.YtnopljanpjmbgaaGreatMS
import Derived.Deep.DeepCutAuto
import Derived.Deep.CutBlock
import Derived.Test.YtnopljanpjmbgaaGreatMI
import Derived.Test.YtnopljanpjmbgaaGreatMK
namespace Go.Proofs.YtnopljanpjmbgaaGreat
open Go.RowKit Drum
set_option linter.unusedVariables false
theorem beginX_ok {X : DevD} (h : X.Ok) (c : Cf) : (beginX X c).2.Ok := by
  unfold beginX
  split
  · exact h
  · split
    · exact h
    · split
      · exact h
      · split
        · exact writeX_ok h _
        · exact writeX_ok (writeX_ok h _) _
theorem advX_ok {X : DevD} (h : X.Ok) (p : Int) : (advX X p).2.2.Ok := by
  unfold advX
  split
  · exact h
  · split
    · exact h
    · split
      · exact h
      · split
        · exact h
        · split
          · exact writeX_ok h _
          · exact writeX_ok h _
theorem eraseVX_n (X : DevD) (i : Int) : (EraseVX X i).n = X.n := by unfold EraseVX; split <;> rfl
theorem syncVX_n (X : DevD) (i : Int) : (SyncVX X i).n = X.n := by unfold SyncVX; split <;> rfl
theorem appVX_n (X : DevD) (i : Int) (b : List (BitVec 8)) : (appVX X i b).n = X.n := by
  unfold appVX
  split
  · split <;> rfl
  · rfl
theorem armX_n (X : DevD) (at_ : Int) (dn : Bool) (keep : List Int) : (armX X at_ dn keep).n = X.n := by
  unfold armX
  split
  · split <;> rfl
  · rfl
theorem wX_opn (X : DevD) (b : Bk) (j : Nat) : (wX X b j).ops ≤ X.ops + 3 ∧ (wX X b j).n = X.n := by
  have e1 := eraseVX_ops X (wslot X b : Int)
  have e2 := appVX_ops (EraseVX X (wslot X b : Int)) (wslot X b : Int) (encOf b)
  have e3 := syncVX_ops (appVX (EraseVX X (wslot X b : Int)) (wslot X b : Int) (encOf b)) (wslot X b : Int)
  have n1 := eraseVX_n X (wslot X b : Int)
  have n2 := appVX_n (EraseVX X (wslot X b : Int)) (wslot X b : Int) (encOf b)
  have n3 := syncVX_n (appVX (EraseVX X (wslot X b : Int)) (wslot X b : Int) (encOf b)) (wslot X b : Int)
  match j with
  | 0 => exact ⟨by show X.ops ≤ _; omega, rfl⟩
  | 1 => exact ⟨by show (EraseVX X (wslot X b : Int)).ops ≤ _; omega, n1⟩
  | 2 => exact ⟨by show (appVX (EraseVX X (wslot X b : Int)) (wslot X b : Int) (encOf b)).ops ≤ _; omega, n2.trans n1⟩
  | j + 3 => exact ⟨by show (SyncVX (appVX (EraseVX X (wslot X b : Int)) (wslot X b : Int) (encOf b)) (wslot X b : Int)).ops ≤ _; omega, n3.trans (n2.trans n1)⟩
theorem writeX_ops (X : DevD) (b : Bk) : (writeX X b).2.ops ≤ X.ops + 3 ∧ (writeX X b).2.n = X.n := by
  unfold writeX
  split
  · exact ⟨by show X.ops ≤ _; omega, rfl⟩
  · split
    · exact ⟨by show X.ops ≤ _; omega, rfl⟩
    · split
      · exact wX_opn X b 1
      · split
        · exact wX_opn X b 2
        · exact wX_opn X b 3
theorem beginX_ops (X : DevD) (c : Cf) : (beginX X c).2.ops ≤ X.ops + 6 ∧ (beginX X c).2.n = X.n := by
  have w1 := writeX_ops X ⟨1, c⟩
  have w2 := writeX_ops (writeX X ⟨1, c⟩).2 ⟨2, c⟩
  unfold beginX
  split
  · exact ⟨by show X.ops ≤ _; omega, rfl⟩
  · split
    · exact ⟨by show X.ops ≤ _; omega, rfl⟩
    · split
      · exact ⟨by show X.ops ≤ _; omega, rfl⟩
      · split
        · exact ⟨by have := w1.1; omega, w1.2⟩
        · exact ⟨by have := w1.1; have := w2.1; omega, w2.2.trans w1.2⟩
theorem advX_ops (X : DevD) (p : Int) : (advX X p).2.2.ops ≤ X.ops + 3 ∧ (advX X p).2.2.n = X.n := by
  unfold advX
  split
  · exact ⟨by show X.ops ≤ _; omega, rfl⟩
  · split
    · exact ⟨by show X.ops ≤ _; omega, rfl⟩
    · split
      · exact ⟨by show X.ops ≤ _; omega, rfl⟩
      · split
        · exact ⟨by show X.ops ≤ _; omega, rfl⟩
        · split
          · exact writeX_ops X _
          · exact writeX_ops X _
section
variable {w0 w w' : World} {os : List Ob} {p q : Option Addr} {X : DevD} {Y Z : Option DevD}
theorem PS.one (h : PS w0 w p q (some X) Z os) : ∃ v r L R X', p = some ⟨v, 0, none⟩ ∧ q = some ⟨r, 0, none⟩ ∧ Z = some X' ∧ X'.Ok ∧ Sep w0.heap.size w0 w (devOb v L X :: rv3 r R X' os) := by
  rcases h with ⟨_, _, h3, _⟩ | ⟨v, r, L, R, X1, X', h1, h2, h3, h4, hX, hs⟩
  · cases h3
  · cases h3
    exact ⟨v, r, L, R, X', h1, h2, h4, hX, hs⟩
theorem PS.two (h : PS w0 w p q Y (some X) os) : ∃ v r L R X', p = some ⟨v, 0, none⟩ ∧ q = some ⟨r, 0, none⟩ ∧ Y = some X' ∧ X.Ok ∧ Sep w0.heap.size w0 w (devOb v L X' :: rv3 r R X os) := by
  rcases h with ⟨_, _, _, h3, _⟩ | ⟨v, r, L, R, X1, X', h1, h2, h3, h4, hX, hs⟩
  · cases h3
  · cases h4
    exact ⟨v, r, L, R, X1, h1, h2, h3, hX, hs⟩
theorem pd_read1 (h : PS w0 w p q (some X) Z os) :
    Calls Tryz.prog 8 #[.pointer p] w fun e w' => e = .returned (.tuple #[.agg (bkv (readX X).2.2), .int .i64 ((readX X).2.1 : Int), .int .i64 (readX X).1]) ∧ Below w.heap.size w w' := by
  obtain ⟨v, r, L, R, X', rfl, rfl, rfl, hX, hs⟩ := h.one
  exact dread_any hs.dev
theorem pd_read2 (h : PS w0 w p q Y (some X) os) :
    Calls Tryz.prog 62 #[.pointer q] w fun e w' => e = .returned (.tuple #[.agg (bkv (readX X).2.2), .int .i64 ((readX X).2.1 : Int), .int .i64 (readX X).1]) ∧ Below w.heap.size w w' := by
  obtain ⟨v, r, L, R, X', rfl, rfl, rfl, hX, hs⟩ := h.two
  exact rread_dual ((ps_rot hs).rd hX)
theorem pd_begin1 (h : PS w0 w p q (some X) Z os) (hC : AllCells os) (hops : X.ops ≤ 100000) (c : Cf) (hc : c.wf) :
    Calls Tryz.prog 18 #[.pointer p, .agg (cfv c)] w fun e w' => e = .returned (.int .i64 (beginX X c).1) ∧ PS w0 w' p q (some (beginX X c).2) Z os := by
  obtain ⟨v, r, L, R, X', rfl, rfl, rfl, hX, hs⟩ := h.one
  refine (sep_dbegin hs (rv3_cells hC) (by omega) c hc).mono ?_
  rintro e w' ⟨h1, L', h2⟩
  exact ⟨h1, .inr ⟨v, r, L', R, _, X', rfl, rfl, rfl, rfl, hX, h2⟩⟩
theorem pd_begin2 (h : PS w0 w p q Y (some X) os) (hops : X.ops ≤ 100000) (c : Cf) (hc : c.wf) :
    Calls Tryz.prog 19 #[.pointer q, .agg (cfv c)] w fun e w' => e = .returned (.int .i64 (beginX X c).1) ∧ PS w0 w' p q Y (some (beginX X c).2) os := by
  obtain ⟨v, r, L, R, X', rfl, rfl, rfl, hX, hs⟩ := h.two
  refine (sep_rbegin (ps_rot hs) hX (by omega) c hc).mono ?_
  rintro e w' ⟨h1, R', h2⟩
  exact ⟨h1, .inr ⟨v, r, L, R', X', _, rfl, rfl, rfl, rfl, beginX_ok hX c, ps_tor h2⟩⟩
theorem pd_adv1 (h : PS w0 w p q (some X) Z os) (hC : AllCells os) (hops : X.ops ≤ 100000) (k : Int) :
    Calls Tryz.prog 10 #[.pointer p, .int .i64 k] w fun e w' => e = .returned (.tuple #[.agg (bkv (advX X k).2.1), .int .i64 (advX X k).1]) ∧ PS w0 w' p q (some (advX X k).2.2) Z os := by
  obtain ⟨v, r, L, R, X', rfl, rfl, rfl, hX, hs⟩ := h.one
  refine (sep_dadv hs (rv3_cells hC) (by omega) k).mono ?_
  rintro e w' ⟨h1, L', h2⟩
  exact ⟨h1, .inr ⟨v, r, L', R, _, X', rfl, rfl, rfl, rfl, hX, h2⟩⟩
theorem pd_adv2 (h : PS w0 w p q Y (some X) os) (hops : X.ops ≤ 100000) (k : Int) :
    Calls Tryz.prog 20 #[.pointer q, .int .i64 k] w fun e w' => e = .returned (.tuple #[.agg (bkv (advX X k).2.1), .int .i64 (advX X k).1]) ∧ PS w0 w' p q Y (some (advX X k).2.2) os := by
  obtain ⟨v, r, L, R, X', rfl, rfl, rfl, hX, hs⟩ := h.two
  refine (sep_radv (ps_rot hs) hX (by omega) k).mono ?_
  rintro e w' ⟨h1, R', h2⟩
  exact ⟨h1, .inr ⟨v, r, L, R', X', _, rfl, rfl, rfl, rfl, advX_ok hX k, ps_tor h2⟩⟩
theorem pd_write1 (h : PS w0 w p q (some X) Z os) (hC : AllCells os) (hops : X.ops ≤ 100000) (b : Bk) (hb : b.wf) :
    Calls Tryz.prog 21 #[.pointer p, .agg (bkv b)] w fun e w' => e = .returned (.int .i64 (writeX X b).1) ∧ PS w0 w' p q (some (writeX X b).2) Z os := by
  obtain ⟨v, r, L, R, X', rfl, rfl, rfl, hX, hs⟩ := h.one
  refine (sep_dwrite hs (rv3_cells hC) (by omega) b hb).mono ?_
  rintro e w' ⟨h1, L', h2⟩
  exact ⟨h1, .inr ⟨v, r, L', R, _, X', rfl, rfl, rfl, rfl, hX, h2⟩⟩
theorem pd_write2 (h : PS w0 w p q Y (some X) os) (hops : X.ops ≤ 100000) (b : Bk) (hb : b.wf) :
    Calls Tryz.prog 22 #[.pointer q, .agg (bkv b)] w fun e w' => e = .returned (.int .i64 (writeX X b).1) ∧ PS w0 w' p q Y (some (writeX X b).2) os := by
  obtain ⟨v, r, L, R, X', rfl, rfl, rfl, hX, hs⟩ := h.two
  refine (sep_rwrite (ps_rot hs) hX (by omega) b hb).mono ?_
  rintro e w' ⟨h1, R', h2⟩
  exact ⟨h1, .inr ⟨v, r, L, R', X', _, rfl, rfl, rfl, rfl, writeX_ok hX b, ps_tor h2⟩⟩
end
end Go.Proofs.YtnopljanpjmbgaaGreat
namespace Go.Proofs.YtnopljanpjmbgaaGreat
open Go.RowKit Drum
set_option linter.unusedVariables false
theorem pnew1 (w : World) (n : Nat) (h2 : 2 ≤ n) (h32 : n ≤ 32) (z : Int) (hz : z = (n : Int)) :
    Calls Tryz.prog 16 #[.int .i64 z, .int .i64 64] w fun e w' => ∃ v L, e = .returned (.tuple #[.pointer (some ⟨v, 0, none⟩), .int .i64 0]) ∧ Sep w.heap.size w w' [devOb v L (newVD n 64)] := by
  subst hz
  exact sep_vnew (Sep.start w) n 64 h2 h32 (by omega) (by omega)
theorem pnew2 {w w1 : World} {v : Nat} {L : DLay} (n : Nat) (h2 : 2 ≤ n) (h32 : n ≤ 32) (z : Int) (hz : z = (n : Int)) (hs : Sep w.heap.size w w1 [devOb v L (newVD n 64)]) :
    Calls Tryz.prog 17 #[.int .i64 z, .int .i64 64] w1 fun e w' => ∃ r, e = .returned (.tuple #[.pointer (some ⟨r, 0, none⟩), .int .i64 0]) ∧ PS w w' (some ⟨v, 0, none⟩) (some ⟨r, 0, none⟩) (some (newVD n 64)) (some (newVD n 64)) [] := by
  subst hz
  refine (rd_new hs (n : Int) 64).mono ?_
  rintro e w' (⟨_, r, R, rfl, h3⟩ | ⟨h3, _⟩)
  · exact ⟨r, rfl, .inr ⟨v, r, L, R, _, _, rfl, rfl, rfl, rfl, newVD_ok n 64 h2 h32, ps_tor h3⟩⟩
  · exact absurd ⟨⟨by omega, by omega⟩, by omega, by omega⟩ h3
section
variable {w0 w : World} {os : List Ob} {p q : Option Addr} {X : DevD} {Y Z : Option DevD}
theorem one_reads {W : World} {g : Nat} {k : Int} (hb : Blk W g 3 #[.int .i64 k]) : Reads W W.heap.size 1 (some ⟨g, 0, none⟩) 1 (ints [k]) := by
  refine ⟨by rw [ints_length]; simp, fun _ => ⟨_, rfl, hb.lt, fun j u hu => ?_⟩⟩
  rw [add_zero_addr, hb.cell]
  simpa [ints] using hu
theorem pd_arm1 {g : Nat} {k : Int} (h : PS w0 w p q (some X) Z (blkOb g 3 #[.int .i64 k] :: os)) (hC : AllCells os) (at_ : Int) (dn : Bool) (hat : -9223372036854775808 ≤ at_ ∧ at_ ≤ 9223372036854775807) :
    Calls Tryz.prog 24 #[.pointer p, .agg #[.int .i64 at_, .bool dn, .slice (some ⟨g, 0, none⟩) 1 1]] w fun e w' => e = .returned (.int .i64 (armE at_ [k])) ∧ PS w0 w' p q (some (armX X at_ dn [k])) Z (blkOb g 3 #[.int .i64 k] :: os) := by
  obtain ⟨v, r, L, R, X', rfl, rfl, rfl, hX, hs⟩ := h.one
  refine (sep_varm hs (rv3_cells (AllCells.cons (cellOb_blk _ _ _) hC)) at_ dn (some ⟨g, 0, none⟩) 1 1 [k] (fun W hW => one_reads (hW.2 _ (.tail _ (.tail _ (.tail _ (.head _)))))) (Nat.le_refl _) (by unfold maxLen; omega) (fun e => by cases e) ?_ hat).mono ?_
  · rintro ad e _ hk
    injection e with e
    subst e
    exact (List.pairwise_cons.1 hs.apart).1 (blkOb g 3 #[.int .i64 k]) (.tail _ (.tail _ (.tail _ (.head _)))) g hk rfl
  · rintro e w' ⟨h1, L', h2⟩
    exact ⟨h1, .inr ⟨v, r, L', R, _, X', rfl, rfl, rfl, rfl, hX, h2⟩⟩
theorem pd_arm2 {g : Nat} {k : Int} (h : PS w0 w p q Y (some X) (blkOb g 3 #[.int .i64 k] :: os)) (at_ : Int) (dn : Bool) (hat : -9223372036854775808 ≤ at_ ∧ at_ ≤ 9223372036854775807) :
    Calls Tryz.prog 25 #[.pointer q, .agg #[.int .i64 at_, .bool dn, .slice (some ⟨g, 0, none⟩) 1 1]] w fun e w' => e = .returned (.int .i64 (armE at_ [k])) ∧ PS w0 w' p q Y (some (armX X at_ dn [k])) (blkOb g 3 #[.int .i64 k] :: os) := by
  obtain ⟨v, r, L, R, X', rfl, rfl, rfl, hX, hs⟩ := h.two
  refine (rd_arm (ps_rot hs) hX at_ dn (some ⟨g, 0, none⟩) 1 1 [k] (fun W hW => one_reads (hW.2 _ (.tail _ (.head _)))) (Nat.le_refl _) (by unfold maxLen; omega) hat).mono ?_
  rintro e w' ⟨h1, R', h2⟩
  exact ⟨h1, .inr ⟨v, r, L, R', X', _, rfl, rfl, rfl, rfl, armX_ok hX at_ dn [k], ps_tor h2⟩⟩
end
end Go.Proofs.YtnopljanpjmbgaaGreat
namespace Go.Proofs.YtnopljanpjmbgaaGreat
open Go.RowKit Go.Shelf Drum
set_option linter.unusedVariables false
section
variable {w0 w : World} {os : List Ob} {p q : Option Addr} {X : DevD}
set_option maxRecDepth 100000 in
set_option maxHeartbeats 16000000 in
theorem shows_any (h : PS w0 w p q (some X) (some X) os) :
    Calls Tryz.prog 30 #[.pointer p, .pointer q] w fun e w' => e = .returned (.bool true) ∧ Below w.heap.size w w' := by
  have HH := Lib.hid h
  obtain ⟨er, ri, ⟨x0, x1, x2, x3, x4, x5, x6, x7⟩, hr⟩ : ∃ er ri rb, readX X = (er, ri, rb) := ⟨_, _, _, rfl⟩
  obtain ⟨rj, hrj⟩ : ∃ rj : Int, (ri : Int) = rj := ⟨_, rfl⟩
  have HR1 : Hid (∀ W, Below w.heap.size w W → Calls Tryz.prog 8 #[.pointer p] W fun e w' => e = .returned (.tuple #[.agg #[.int .i64 x0, .int .i64 x1, .int .i64 x2, .int .i64 x3, .int .i64 x4, .int .i64 x5, .int .i64 x6, .int .i64 x7], .int .i64 rj, .int .i64 er]) ∧ Below W.heap.size W w') := fun W hW => by
    have := pd_read1 (HH.out.below hW)
    rw [hr] at this
    rw [← hrj]
    exact this
  have HR2 : Hid (∀ W, Below w.heap.size w W → Calls Tryz.prog 62 #[.pointer q] W fun e w' => e = .returned (.tuple #[.agg #[.int .i64 x0, .int .i64 x1, .int .i64 x2, .int .i64 x3, .int .i64 x4, .int .i64 x5, .int .i64 x6, .int .i64 x7], .int .i64 rj, .int .i64 er]) ∧ Below W.heap.size W w') := fun W hW => by
    have := pd_read2 (HH.out.below hW)
    rw [hr] at this
    rw [← hrj]
    exact this
  have hX : X.Ok := by
    obtain ⟨v, r, L, R, X', _, _, hz, hX, _⟩ := h.one
    cases hz
    exact hX
  have hn2 := hX.n2
  have hn32 := hX.n32
  obtain ⟨nI, hnI⟩ : ∃ nI : Int, (X.n : Int) = nI := ⟨_, rfl⟩
  obtain ⟨op, hop⟩ : ∃ op : Int, (X.ops : Int) = op := ⟨_, rfl⟩
  obtain ⟨dn, hdn⟩ : ∃ dn : Bool, X.down = dn := ⟨_, rfl⟩
  have HO1 : Hid (∀ W, Below w.heap.size w W → Calls Tryz.prog 6 #[.pointer p] W fun e w' => e = .returned (.int .i64 op) ∧ Below W.heap.size W w') := fun W hW => by
    rw [← hop]
    exact ps_ops1 (HH.out.below hW)
  have HO2 : Hid (∀ W, Below w.heap.size w W → Calls Tryz.prog 80 #[.pointer q] W fun e w' => e = .returned (.int .i64 op) ∧ Below W.heap.size W w') := fun W hW => by
    rw [← hop]
    exact ps_ops2 (HH.out.below hW)
  have HD1 : Hid (∀ W, Below w.heap.size w W → Calls Tryz.prog 81 #[.pointer p] W fun e w' => e = .returned (.bool dn) ∧ Below W.heap.size W w') := fun W hW => by
    rw [← hdn]
    exact ps_down1 (HH.out.below hW)
  have HD2 : Hid (∀ W, Below w.heap.size w W → Calls Tryz.prog 60 #[.pointer q] W fun e w' => e = .returned (.bool dn) ∧ Below W.heap.size W w') := fun W hW => by
    rw [← hdn]
    exact ps_down2 (HH.out.below hW)
  have HS1 : Hid (∀ W, Below w.heap.size w W → Calls Tryz.prog 57 #[.pointer p] W fun e w' => e = .returned (.int .i64 nI) ∧ Below W.heap.size W w') := fun W hW => by
    rw [← hnI]
    exact ps_slots1 (HH.out.below hW)
  have HS2 : Hid (∀ W, Below w.heap.size w W → Calls Tryz.prog 58 #[.pointer q] W fun e w' => e = .returned (.int .i64 nI) ∧ Below W.heap.size W w') := fun W hW => by
    rw [← hnI]
    exact ps_slots2 (HH.out.below hW)
  have HL1 : Hid (∀ W, Below w.heap.size w W → ∀ (i m c : Int), lenV X i = m → chkE X i = c → Calls Tryz.prog 43 #[.pointer p, .int .i64 i] W fun e w' => e = .returned (.tuple #[.int .i64 m, .int .i64 c]) ∧ Below W.heap.size W w') := fun W hW i m c hm hc => by
    rw [← hm, ← hc]
    exact ps_len1 (HH.out.below hW) i
  have HL2 : Hid (∀ W, Below w.heap.size w W → ∀ (i m c : Int), lenV X i = m → chkE X i = c → Calls Tryz.prog 61 #[.pointer q, .int .i64 i] W fun e w' => e = .returned (.tuple #[.int .i64 m, .int .i64 c]) ∧ Below W.heap.size W w') := fun W hW i m c hm hc => by
    rw [← hm, ← hc]
    exact ps_len2 (HH.out.below hW) i
  have HNI : Hid ((X.n : Int) = nI) := hnI
  have hnI2 : 2 ≤ nI := by omega
  have hnI32 : nI ≤ 32 := by omega
  obtain ⟨n, hn⟩ : ∃ n : Nat, n = X.n + 2 := ⟨_, rfl⟩
  have hnn : nI + 2 = (n : Int) := by omega
  have hn34 : n ≤ 34 := by omega
  have HNN := Lib.hid hnn
  clear h hr hrj hnI hop hdn hX hn2 hn32 hn hnn
  go_enter Tryz.func30, Tryz.ntmps30
  go_wp2_with fail
  refine (HR1.out w (Below.refl _ _)).mono ?_
  rintro e w2 ⟨rfl, hb⟩
  obtain ⟨g5, hg5⟩ : ∃ g5, g5 = w2.heap.size := ⟨_, rfl⟩
  obtain ⟨W3, hW3⟩ : ∃ W3 : World, W3 = w2.alloc (.cells #[.int .i64 x0, .int .i64 x1, .int .i64 x2, .int .i64 x3, .int .i64 x4, .int .i64 x5, .int .i64 x6, .int .i64 x7] 33) := ⟨_, rfl⟩
  have H3 : Hid (Sep w.heap.size w W3 [blkOb g5 33 #[.int .i64 x0, .int .i64 x1, .int .i64 x2, .int .i64 x3, .int .i64 x4, .int .i64 x5, .int .i64 x6, .int .i64 x7]]) := by
    show Sep _ _ _ _
    rw [hW3]
    exact ((Sep.start w).below hb).newBlk g5 _ _ hg5
  clear hb
  go_upto_region 2 with fail
  rw [← hg5, ← hW3]
  clear hg5 hW3
  go_wp2_with fail
  refine (HR2.out W3 H3.out.bel).mono ?_
  rintro e w4 ⟨rfl, hb⟩
  obtain ⟨g8, hg8⟩ : ∃ g8, g8 = w4.heap.size := ⟨_, rfl⟩
  obtain ⟨W5, hW5⟩ : ∃ W5 : World, W5 = w4.alloc (.cells #[.int .i64 x0, .int .i64 x1, .int .i64 x2, .int .i64 x3, .int .i64 x4, .int .i64 x5, .int .i64 x6, .int .i64 x7] 57) := ⟨_, rfl⟩
  have H5 : Hid (Sep w.heap.size w W5 [blkOb g8 57 #[.int .i64 x0, .int .i64 x1, .int .i64 x2, .int .i64 x3, .int .i64 x4, .int .i64 x5, .int .i64 x6, .int .i64 x7], blkOb g5 33 #[.int .i64 x0, .int .i64 x1, .int .i64 x2, .int .i64 x3, .int .i64 x4, .int .i64 x5, .int .i64 x6, .int .i64 x7]]) := by
    show Sep _ _ _ _
    rw [hW5]
    exact (H3.out.below hb).newBlk g8 _ _ hg8
  clear hb
  go_upto_region 3 with fail
  rw [← hg8, ← hW5]
  clear hg8 hW5
  have k8 : Blk W5 g8 57 #[.int .i64 x0, .int .i64 x1, .int .i64 x2, .int .i64 x3, .int .i64 x4, .int .i64 x5, .int .i64 x6, .int .i64 x7] := H5.out.get (.head _)
  have k5 : Blk W5 g5 33 #[.int .i64 x0, .int .i64 x1, .int .i64 x2, .int .i64 x3, .int .i64 x4, .int .i64 x5, .int .i64 x6, .int .i64 x7] := H5.out.get (.tail _ (.head _))
  have r0 : W5.cell? ⟨g8, 0, none⟩ = some (.int .i64 x0) := k8.cell 0
  have c0 : W5.cell? ⟨g5, 0, none⟩ = some (.int .i64 x0) := k5.cell 0
  have r1 : W5.cell? ⟨g8, 1, none⟩ = some (.int .i64 x1) := k8.cell 1
  have c1 : W5.cell? ⟨g5, 1, none⟩ = some (.int .i64 x1) := k5.cell 1
  have r2 : W5.cell? ⟨g8, 2, none⟩ = some (.int .i64 x2) := k8.cell 2
  have c2 : W5.cell? ⟨g5, 2, none⟩ = some (.int .i64 x2) := k5.cell 2
  have r3 : W5.cell? ⟨g8, 3, none⟩ = some (.int .i64 x3) := k8.cell 3
  have c3 : W5.cell? ⟨g5, 3, none⟩ = some (.int .i64 x3) := k5.cell 3
  have r4 : W5.cell? ⟨g8, 4, none⟩ = some (.int .i64 x4) := k8.cell 4
  have c4 : W5.cell? ⟨g5, 4, none⟩ = some (.int .i64 x4) := k5.cell 4
  have r5 : W5.cell? ⟨g8, 5, none⟩ = some (.int .i64 x5) := k8.cell 5
  have c5 : W5.cell? ⟨g5, 5, none⟩ = some (.int .i64 x5) := k5.cell 5
  have r6 : W5.cell? ⟨g8, 6, none⟩ = some (.int .i64 x6) := k8.cell 6
  have c6 : W5.cell? ⟨g5, 6, none⟩ = some (.int .i64 x6) := k5.cell 6
  have r7 : W5.cell? ⟨g8, 7, none⟩ = some (.int .i64 x7) := k8.cell 7
  have c7 : W5.cell? ⟨g5, 7, none⟩ = some (.int .i64 x7) := k5.cell 7
  clear k8 k5
  go_wp2_with fail
  refine (HO1.out W5 H5.out.bel).mono ?_
  rintro e w6 ⟨rfl, hb⟩
  have H6 := Lib.hid (H5.out.below hb)
  clear hb r0 c0 r1 c1 r2 c2 r3 c3 r4 c4 r5 c5 r6 c6 r7 c7
  go_wp2_with fail
  refine (HO2.out w6 H6.out.bel).mono ?_
  rintro e w7 ⟨rfl, hb⟩
  have H7 := Lib.hid (H6.out.below hb)
  clear hb
  go_wp2_with fail
  refine (HD1.out w7 H7.out.bel).mono ?_
  rintro e w8 ⟨rfl, hb⟩
  have H8 := Lib.hid (H7.out.below hb)
  clear hb
  go_wp2_with fail
  refine (HD2.out w8 H8.out.bel).mono ?_
  rintro e w9 ⟨rfl, hb⟩
  have H9 := Lib.hid (H8.out.below hb)
  clear hb
  go_wp2_with fail
  refine (HS1.out w9 H9.out.bel).mono ?_
  rintro e w10 ⟨rfl, hb⟩
  have H10 := Lib.hid (H9.out.below hb)
  clear hb
  go_wp2_with fail
  refine (HS2.out w10 H10.out.bel).mono ?_
  rintro e w11 ⟨rfl, hb⟩
  have H11 := Lib.hid (H10.out.below hb)
  clear hb
  go_wp2_with fail
  refine (HS2.out w11 H11.out.bel).mono ?_
  rintro e w12 ⟨rfl, hb⟩
  have H12 := Lib.hid (H11.out.below hb)
  clear hb
  go_wp2_with fail
  go_loopg [67] n (fun qq v67 wr => ∃ (j : Nat), j + qq = n ∧ v67 = .int .i64 j ∧ Sep w.heap.size w wr [blkOb g8 57 #[.int .i64 x0, .int .i64 x1, .int .i64 x2, .int .i64 x3, .int .i64 x4, .int .i64 x5, .int .i64 x6, .int .i64 x7], blkOb g5 33 #[.int .i64 x0, .int .i64 x1, .int .i64 x2, .int .i64 x3, .int .i64 x4, .int .i64 x5, .int .i64 x6, .int .i64 x7]])
  case atStart => exact ⟨0, by omega, rfl, H12.out⟩
  case round =>
    obtain ⟨j, hj, rfl, hs⟩ := hrel
    have HJ := Lib.hid hj
    have G0 := Lib.hid hs
    have hjn : j ≤ n := by omega
    clear hj hs
    by_cases hlt : j < n
    · have hltI : (j : Int) < nI + 2 := by have := HNN.out; omega
      obtain ⟨lm, hlm⟩ : ∃ lm, lenV X (j : Int) = lm := ⟨_, rfl⟩
      obtain ⟨ec, hec⟩ : ∃ ec, chkE X (j : Int) = ec := ⟨_, rfl⟩
      have HC1 := Lib.hid (HL1.out wr G0.out.bel (j : Int) lm ec hlm hec)
      go_wp2_with fail
      refine HC1.out.mono ?_
      rintro e y1 ⟨rfl, hb⟩
      have G1 := Lib.hid (G0.out.below hb)
      have HC2 := Lib.hid (HL2.out y1 G1.out.bel (j : Int) lm ec hlm hec)
      clear hb
      go_wp2_with fail
      refine HC2.out.mono ?_
      rintro e y2 ⟨rfl, hb⟩
      have G2 := Lib.hid (G1.out.below hb)
      clear hb hlm hec
      go_wp2_with fail
      refine (ps_read1 (HH.out.below G2.out.bel) (j : Int) 0 lm).mono ?_
      rintro e y3 ⟨Aa, na, ca, la, ka, rfl, hra, hna, hrda, hb⟩
      have HRA := Lib.hid hra
      have HRDA := Lib.hid hrda
      have G3 := Lib.hid (G2.out.below hb)
      clear hra hrda hb
      go_wp2_with fail
      refine (ps_read2 (HH.out.below G3.out.bel) (j : Int) 0 lm).mono ?_
      rintro e y4 ⟨Ab, nb, cb, lb, kb, rfl, hrb, hnb, hrdb, hb⟩
      obtain ⟨rfl, rfl⟩ := HRA.out.same hrb
      have hnab : na = nb := by have h1 := HRDA.out.1; have h2 := hrdb.1; omega
      subst hnab
      have HRDB := Lib.hid hrdb
      have HRDA2 := Lib.hid ((HRDA.out.below hb).more hb.size)
      have G4 := Lib.hid (G3.out.below hb)
      have hll : na = la.length := by have := hrdb.1; rw [u8s_length] at this; omega
      have HLL := Lib.hid hll
      clear hrb hrdb hb hnb HRA HRDA hll
      go_wp2_with fail
      refine (lt_equal G4.out HLL.out (by unfold maxLen; omega) HRDA2.out HRDB.out).mono ?_
      rintro e y5 ⟨rfl, hs⟩
      have G5 := Lib.hid hs
      clear hs
      go_wp2_with fail
      go_roundg (gk - 1)
      case measure => have := HJ.out; omega
      case rel => exact ⟨j + 1, by have := HJ.out; omega, by go_num, G5.out⟩
    · obtain rfl : j = n := by omega
      have hltI : ¬ (j : Int) < nI + 2 := by have := HNN.out; omega
      go_wp2_with fail
      go_ret
      exact ⟨rfl, G0.out.bel⟩
end
end Go.Proofs.YtnopljanpjmbgaaGreat
namespace Go.Proofs.YtnopljanpjmbgaaGreat
open Go.RowKit Drum
set_option linter.unusedVariables false
structure PStep where
  act : BitVec 8
  c : Cf
  pol : Int
  ep : Int
  b : List (BitVec 8)
  at_ : BitVec 8
  keep : BitVec 8
structure PStep.Ok (w : World) (st : PStep) (v10 : Value) : Prop where
  hc : st.c.wf
  he : -9223372036854775808 ≤ st.ep ∧ st.ep ≤ 9223372036854775807
  hp : -9223372036854775808 ≤ st.pol ∧ st.pol ≤ 9223372036854775807
  hv : Holds w v10 st.b
def PStep.cells (st : PStep) (v10 : Value) : Array Value := #[.int .u8 (n8 st.act), .int .i64 st.c.slots, .int .i64 st.c.size, .int .i64 st.c.reserve, .int .i64 st.c.work, .int .i64 st.c.key, .int .i64 st.c.value, .int .i64 st.c.policy, .int .i64 st.pol, .int .i64 st.ep, v10, .int .u8 (n8 st.at_), .int .u8 (n8 st.keep)]
structure PStepAt (w : World) (B : Nat) (A : Option Addr) (i : Nat) (ad : Addr) (st : PStep) (v10 : Value) : Prop where
  a : A = some ad
  lt : ad.block < B
  c0 : w.cell? (ad.add (i * 13)) = some (.int .u8 (n8 st.act))
  c1 : w.cell? ⟨(ad.add (i * 13)).block, (ad.add (i * 13)).off + 1, none⟩ = some (.int .i64 st.c.slots)
  c2 : w.cell? ⟨(ad.add (i * 13)).block, (ad.add (i * 13)).off + 2, none⟩ = some (.int .i64 st.c.size)
  c3 : w.cell? ⟨(ad.add (i * 13)).block, (ad.add (i * 13)).off + 3, none⟩ = some (.int .i64 st.c.reserve)
  c4 : w.cell? ⟨(ad.add (i * 13)).block, (ad.add (i * 13)).off + 4, none⟩ = some (.int .i64 st.c.work)
  c5 : w.cell? ⟨(ad.add (i * 13)).block, (ad.add (i * 13)).off + 5, none⟩ = some (.int .i64 st.c.key)
  c6 : w.cell? ⟨(ad.add (i * 13)).block, (ad.add (i * 13)).off + 6, none⟩ = some (.int .i64 st.c.value)
  c7 : w.cell? ⟨(ad.add (i * 13)).block, (ad.add (i * 13)).off + 7, none⟩ = some (.int .i64 st.c.policy)
  c8 : w.cell? ⟨(ad.add (i * 13)).block, (ad.add (i * 13)).off + 8, none⟩ = some (.int .i64 st.pol)
  c9 : w.cell? ⟨(ad.add (i * 13)).block, (ad.add (i * 13)).off + 9, none⟩ = some (.int .i64 st.ep)
  c10 : w.cell? ⟨(ad.add (i * 13)).block, (ad.add (i * 13)).off + 10, none⟩ = some (v10)
  c11 : w.cell? ⟨(ad.add (i * 13)).block, (ad.add (i * 13)).off + 11, none⟩ = some (.int .u8 (n8 st.at_))
  c12 : w.cell? ⟨(ad.add (i * 13)).block, (ad.add (i * 13)).off + 12, none⟩ = some (.int .u8 (n8 st.keep))
  ok : st.Ok w v10
def PStepsAt (w : World) (B : Nat) (A : Option Addr) (n : Nat) (sts : Nat → PStep) : Prop := ∀ i, i < n → ∃ ad v10, PStepAt w B A i ad (sts i) v10
theorem PStepAt.below {w w' : World} {A : Option Addr} {i : Nat} {ad : Addr} {st : PStep} {v10 : Value} (h : PStepAt w w.heap.size A i ad st v10) (hb : Below w.heap.size w w') : PStepAt w' w.heap.size A i ad st v10 := by
  have key : ∀ p : Addr, p.block = ad.block → w'.cell? p = w.cell? p := fun p hp => hb.cell (by rw [hp]; exact h.lt)
  exact ⟨h.a, h.lt, (key _ (block_of_add _ _)).trans h.c0, (key ⟨(ad.add (i * 13)).block, _, none⟩ (block_of_add ad (i * 13))).trans h.c1, (key ⟨(ad.add (i * 13)).block, _, none⟩ (block_of_add ad (i * 13))).trans h.c2, (key ⟨(ad.add (i * 13)).block, _, none⟩ (block_of_add ad (i * 13))).trans h.c3, (key ⟨(ad.add (i * 13)).block, _, none⟩ (block_of_add ad (i * 13))).trans h.c4, (key ⟨(ad.add (i * 13)).block, _, none⟩ (block_of_add ad (i * 13))).trans h.c5, (key ⟨(ad.add (i * 13)).block, _, none⟩ (block_of_add ad (i * 13))).trans h.c6, (key ⟨(ad.add (i * 13)).block, _, none⟩ (block_of_add ad (i * 13))).trans h.c7, (key ⟨(ad.add (i * 13)).block, _, none⟩ (block_of_add ad (i * 13))).trans h.c8, (key ⟨(ad.add (i * 13)).block, _, none⟩ (block_of_add ad (i * 13))).trans h.c9, (key ⟨(ad.add (i * 13)).block, _, none⟩ (block_of_add ad (i * 13))).trans h.c10, (key ⟨(ad.add (i * 13)).block, _, none⟩ (block_of_add ad (i * 13))).trans h.c11, (key ⟨(ad.add (i * 13)).block, _, none⟩ (block_of_add ad (i * 13))).trans h.c12, ⟨h.ok.hc, h.ok.he, h.ok.hp, h.ok.hv.below hb⟩⟩
set_option maxRecDepth 100000 in
set_option maxHeartbeats 2000000 in
/-- A step's cells, out of what can be read. -/
theorem pstep_of_rd {w : World} {cs : List Value} (hl : cs.length = Tryz.prog.cellsOf 54)
    (hf : ∀ (i : Nat) (f : Field), (match Tryz.prog.underlying 54 with | some (.struct fs) => fs[i]? | _ => none) = some f → Rd Tryz.prog w f.type ((cs.drop f.offset).take (Tryz.prog.cellsOf f.type))) :
    ∃ (st : PStep) (v10 : Value), cs = (st.cells v10).toList ∧ st.Ok w v10 := by
  have hC : Tryz.prog.cellsOf 54 = 13 := by kernel_rfl
  have hC1 : Tryz.prog.cellsOf 3 = 1 := by kernel_rfl
  have hC2 : Tryz.prog.cellsOf 23 = 1 := by kernel_rfl
  have hC3 : Tryz.prog.cellsOf 5 = 1 := by kernel_rfl
  have hC4 : Tryz.prog.cellsOf 2 = 1 := by kernel_rfl
  have hC5 : Tryz.prog.cellsOf 26 = 7 := by kernel_rfl
  rw [hC] at hl
  obtain ⟨x0, x1, x2, x3, x4, x5, x6, x7, x8, x9, x10, x11, x12, rfl⟩ : ∃ a0 a1 a2 a3 a4 a5 a6 a7 a8 a9 a10 a11 a12, cs = [a0, a1, a2, a3, a4, a5, a6, a7, a8, a9, a10, a11, a12] := by
    match cs, hl with
    | [a0, a1, a2, a3, a4, a5, a6, a7, a8, a9, a10, a11, a12], _ => exact ⟨a0, a1, a2, a3, a4, a5, a6, a7, a8, a9, a10, a11, a12, rfl⟩
  rw [Tryz.underlying54] at hf
  have g0 : Rd Tryz.prog w 5 [x0] := by simpa [hC3] using hf 0 _ rfl
  have gc : Rd Tryz.prog w 26 [x1, x2, x3, x4, x5, x6, x7] := by simpa [hC5] using hf 1 _ rfl
  have g8 : Rd Tryz.prog w 3 [x8] := by simpa [hC1] using hf 2 _ rfl
  have g9 : Rd Tryz.prog w 2 [x9] := by simpa [hC4] using hf 3 _ rfl
  have g10 : Rd Tryz.prog w 23 [x10] := by simpa [hC2] using hf 4 _ rfl
  have g11 : Rd Tryz.prog w 5 [x11] := by simpa [hC3] using hf 5 _ rfl
  have g12 : Rd Tryz.prog w 5 [x12] := by simpa [hC3] using hf 6 _ rfl
  obtain ⟨hcl, hcf⟩ := Rd.struct Tryz.underlying26 gc
  have g1 : Rd Tryz.prog w 3 [x1] := by simpa [hC1] using hcf 0 _ rfl
  have g2 : Rd Tryz.prog w 3 [x2] := by simpa [hC1] using hcf 1 _ rfl
  have g3 : Rd Tryz.prog w 3 [x3] := by simpa [hC1] using hcf 2 _ rfl
  have g4 : Rd Tryz.prog w 3 [x4] := by simpa [hC1] using hcf 3 _ rfl
  have g5 : Rd Tryz.prog w 3 [x5] := by simpa [hC1] using hcf 4 _ rfl
  have g6 : Rd Tryz.prog w 3 [x6] := by simpa [hC1] using hcf 5 _ rfl
  have g7 : Rd Tryz.prog w 3 [x7] := by simpa [hC1] using hcf 6 _ rfl
  obtain ⟨y0, e0, w0⟩ := Rd.int (k := .u8) Tryz.underlying5 g0
  obtain ⟨d0, rfl⟩ := u8_of_wf w0
  obtain ⟨y11, e11, w11⟩ := Rd.int (k := .u8) Tryz.underlying5 g11
  obtain ⟨d11, rfl⟩ := u8_of_wf w11
  obtain ⟨y12, e12, w12⟩ := Rd.int (k := .u8) Tryz.underlying5 g12
  obtain ⟨d12, rfl⟩ := u8_of_wf w12
  obtain ⟨d1, e1, w1⟩ := Rd.int (k := .i64) Tryz.underlying3 g1
  obtain ⟨d2, e2, w2⟩ := Rd.int (k := .i64) Tryz.underlying3 g2
  obtain ⟨d3, e3, w3⟩ := Rd.int (k := .i64) Tryz.underlying3 g3
  obtain ⟨d4, e4, w4⟩ := Rd.int (k := .i64) Tryz.underlying3 g4
  obtain ⟨d5, e5, w5⟩ := Rd.int (k := .i64) Tryz.underlying3 g5
  obtain ⟨d6, e6, w6⟩ := Rd.int (k := .i64) Tryz.underlying3 g6
  obtain ⟨d7, e7, w7⟩ := Rd.int (k := .i64) Tryz.underlying3 g7
  obtain ⟨d8, e8, w8⟩ := Rd.int (k := .i64) Tryz.underlying3 g8
  obtain ⟨d9, e9, w9⟩ := Rd.int (k := .i64) Tryz.underlying2 g9
  obtain ⟨A1, n1, c1, ys, e10, y1, y2, y3, y4⟩ := g10.slice (e := 5) Tryz.underlying23 (by rw [hC3]; omega)
  rw [hC3] at y3 y4
  obtain ⟨b, hb⟩ := bytes_of_rd y1 y2 y3 y4
  have q0 : x0 = .int .u8 (n8 d0) := by simpa using e0
  have q1 : x1 = .int .i64 d1 := by simpa using e1
  have q2 : x2 = .int .i64 d2 := by simpa using e2
  have q3 : x3 = .int .i64 d3 := by simpa using e3
  have q4 : x4 = .int .i64 d4 := by simpa using e4
  have q5 : x5 = .int .i64 d5 := by simpa using e5
  have q6 : x6 = .int .i64 d6 := by simpa using e6
  have q7 : x7 = .int .i64 d7 := by simpa using e7
  have q8 : x8 = .int .i64 d8 := by simpa using e8
  have q9 : x9 = .int .i64 d9 := by simpa using e9
  have q10 : x10 = .slice A1 n1 c1 := by simpa using e10
  have q11 : x11 = .int .u8 (n8 d11) := by simpa using e11
  have q12 : x12 = .int .u8 (n8 d12) := by simpa using e12
  subst q0 q1 q2 q3 q4 q5 q6 q7 q8 q9 q10 q11 q12
  refine ⟨⟨d0, ⟨d1, d2, d3, d4, d5, d6, d7⟩, d8, d9, b, d11, d12⟩, _, rfl, ?_, i64_of_wf w9, i64_of_wf w8, hb⟩
  intro n hn
  simp only [Cf.nums, List.mem_cons, List.not_mem_nil, or_false] at hn
  rcases hn with rfl | rfl | rfl | rfl | rfl | rfl | rfl
  · exact i64_of_wf w1
  · exact i64_of_wf w2
  · exact i64_of_wf w3
  · exact i64_of_wf w4
  · exact i64_of_wf w5
  · exact i64_of_wf w6
  · exact i64_of_wf w7
set_option maxRecDepth 100000 in
theorem psteps_arg {w : World} {v : Value} (h : ArgIn Tryz.prog w 47 v) : ∃ A n c sts, v = .slice A n c ∧ n ≤ c ∧ c ≤ maxLen ∧ PStepsAt w w.heap.size A n sts := by
  obtain ⟨A, n, c, xs, rfl, h1, h2, h3, h4⟩ := h.slice (e := 54) rfl (by decide +kernel)
  have hC : Tryz.prog.cellsOf 54 = 13 := by kernel_rfl
  have key : ∀ i, ∃ st : PStep, i < n → ∃ ad v10, PStepAt w w.heap.size A i ad st v10 := fun i => by
    by_cases hi : i < n
    · obtain ⟨hl, hf⟩ := Rd.struct Tryz.underlying54 (h4 i hi)
      obtain ⟨st, v10, e, ok⟩ := pstep_of_rd hl (fun i f hf' => by rw [Tryz.underlying54] at hf'; exact hf i f hf')
      rw [hC] at h3 e
      obtain ⟨ad, ea, hbk, hc⟩ := h3.2 (by omega)
      have at_ : ∀ q v, (st.cells v10).toList[q]? = some v → q < 13 → w.cell? ((ad.add (i * 13)).add q) = some v := by
        intro q v hq hq3
        rw [← e, List.getElem?_take, if_pos hq3, List.getElem?_drop] at hq
        rw [add_of_add]
        exact hc _ _ hq
      refine ⟨st, fun _ => ⟨ad, v10, ea, hbk, ?_, ?_, ?_, ?_, ?_, ?_, ?_, ?_, ?_, ?_, ?_, ?_, ?_, ok⟩⟩
      · have := at_ 0 _ rfl (by omega); rw [add_of_add, Nat.add_zero] at this; exact this
      · exact at_ 1 _ rfl (by omega)
      · exact at_ 2 _ rfl (by omega)
      · exact at_ 3 _ rfl (by omega)
      · exact at_ 4 _ rfl (by omega)
      · exact at_ 5 _ rfl (by omega)
      · exact at_ 6 _ rfl (by omega)
      · exact at_ 7 _ rfl (by omega)
      · exact at_ 8 _ rfl (by omega)
      · exact at_ 9 _ rfl (by omega)
      · exact at_ 10 _ rfl (by omega)
      · exact at_ 11 _ rfl (by omega)
      · exact at_ 12 _ rfl (by omega)
    · exact ⟨⟨0#8, ⟨0, 0, 0, 0, 0, 0, 0⟩, 0, 0, [], 0#8, 0#8⟩, fun h => absurd h hi⟩
  exact ⟨A, n, c, fun i => (key i).choose, rfl, h1, h2, fun i hi => (key i).choose_spec hi⟩
end Go.Proofs.YtnopljanpjmbgaaGreat

/-
  A device and the document's side by side, or both nil: each method on the one and on the other, with results that are the same plain functions; A device and the document's side by side: Arm, Copy, Read, Disk; The device laws' disks: a disk and the document's that hold the same.
-/
import Derived.Test.YteglaedkhopbgaaGreatMM
import Derived.Test.YteglaedkhopbgaaGreatMJ
namespace Go.Proofs.YteglaedkhopbgaaGreat
open Go.RowKit Go.Shelf
set_option linter.unusedVariables false
def PS (w0 W : World) (p q : Option Addr) (Y Z : Option DevD) (os : List Ob) : Prop :=
  (p = none ∧ q = none ∧ Y = none ∧ Z = none ∧ Sep w0.heap.size w0 W os) ∨ (∃ v r L R X X', p = some ⟨v, 0, none⟩ ∧ q = some ⟨r, 0, none⟩ ∧ Y = some X ∧ Z = some X' ∧ X'.Ok ∧ Sep w0.heap.size w0 W (devOb v L X :: rv3 r R X' os))
def opsO : Option DevD → Nat
  | none => 0
  | some X => X.ops
def eO (Y : Option DevD) (k : Int) (g : DevD → Int) : Int := match Y with
  | none => k
  | some X => g X
def bO (Y : Option DevD) : Bool := match Y with
  | none => false
  | some X => X.down
theorem appVX_ok {X : DevD} (h : X.Ok) (i : Int) (b : List (BitVec 8)) : (appVX X i b).Ok := by
  unfold appVX
  split
  · split
    · exact opX_ok h _ _
    · exact h
  · exact h
theorem syncVX_ok {X : DevD} (h : X.Ok) (i : Int) : (SyncVX X i).Ok := by
  unfold SyncVX
  split
  · exact opX_ok h _ _
  · exact h
theorem eraseVX_ok {X : DevD} (h : X.Ok) (i : Int) : (EraseVX X i).Ok := by
  unfold EraseVX
  split
  · exact opX_ok h _ _
  · exact h
theorem appVX_ops (X : DevD) (i : Int) (b : List (BitVec 8)) : (appVX X i b).ops ≤ X.ops + 1 := by
  unfold appVX
  split
  · split
    · exact Nat.le_refl _
    · exact Nat.le_succ _
  · exact Nat.le_succ _
theorem syncVX_ops (X : DevD) (i : Int) : (SyncVX X i).ops ≤ X.ops + 1 := by
  unfold SyncVX
  split
  · exact Nat.le_refl _
  · exact Nat.le_succ _
theorem eraseVX_ops (X : DevD) (i : Int) : (EraseVX X i).ops ≤ X.ops + 1 := by
  unfold EraseVX
  split
  · exact Nat.le_refl _
  · exact Nat.le_succ _
theorem armX_ops (X : DevD) (at_ : Int) (dn : Bool) (keep : List Int) : (armX X at_ dn keep).ops = X.ops := by
  unfold armX
  split
  · split <;> rfl
  · rfl
theorem opsO_map {Y : Option DevD} {g : DevD → DevD} {n : Nat} (h : opsO Y ≤ n) (hg : ∀ X, (g X).ops ≤ X.ops + 1) : opsO (Y.map g) ≤ n + 1 := by
  cases Y with
  | none => exact Nat.zero_le _
  | some X => exact Nat.le_trans (hg X) (Nat.succ_le_succ h)
section
variable {w0 w w' : World} {os : List Ob} {p q : Option Addr} {Y Z : Option DevD} {o : Ob}
theorem PS.below (h : PS w0 w p q Y Z os) (hb : Below w.heap.size w w') : PS w0 w' p q Y Z os := by
  rcases h with ⟨h1, h2, h3, h4, hs⟩ | ⟨v, r, L, R, X, X', h1, h2, h3, h4, hX, hs⟩
  · exact .inl ⟨h1, h2, h3, h4, hs.below hb⟩
  · exact .inr ⟨v, r, L, R, X, X', h1, h2, h3, h4, hX, hs.below hb⟩
theorem PS.bel (h : PS w0 w p q Y Z os) : Below w0.heap.size w0 w := by
  rcases h with ⟨h1, h2, h3, h4, hs⟩ | ⟨v, r, L, R, X, X', h1, h2, h3, h4, hX, hs⟩ <;> exact hs.bel
theorem PS.get (h : PS w0 w p q Y Z os) (ho : o ∈ os) : o.P w := by
  rcases h with ⟨h1, h2, h3, h4, hs⟩ | ⟨v, r, L, R, X, X', h1, h2, h3, h4, hX, hs⟩
  · exact hs.get ho
  · exact hs.get (.tail _ (.tail _ (.tail _ (.tail _ ho))))
theorem PS.drop (h : PS w0 w p q Y Z (o :: os)) : PS w0 w p q Y Z os := by
  rcases h with ⟨h1, h2, h3, h4, hs⟩ | ⟨v, r, L, R, X, X', h1, h2, h3, h4, hX, hs⟩
  · exact .inl ⟨h1, h2, h3, h4, hs.sub (.cons _ (List.Sublist.refl _))⟩
  · exact .inr ⟨v, r, L, R, X, X', h1, h2, h3, h4, hX, hs.sub (.cons_cons _ (.cons_cons _ (.cons_cons _ (.cons_cons _ (.cons _ (List.Sublist.refl _))))))⟩
theorem PS.newBlk (h : PS w0 w p q Y Z os) (g : Nat) (t : TypeId) (cs : Array Value) (hg : g = w.heap.size) : PS w0 (w.alloc (.cells cs t)) p q Y Z (blkOb g t cs :: os) := by
  rcases h with ⟨h1, h2, h3, h4, hs⟩ | ⟨v, r, L, R, X, X', h1, h2, h3, h4, hX, hs⟩
  · exact .inl ⟨h1, h2, h3, h4, hs.newBlk g t cs hg⟩
  · exact .inr ⟨v, r, L, R, X, X', h1, h2, h3, h4, hX, (hs.newBlk g t cs hg).perm (List.perm_middle (l₁ := [_, _, _, _])).symm⟩
theorem ps_rot {v r : Nat} {L : DLay} {R : RLay} {X X' : DevD} (h : Sep w0.heap.size w0 w (devOb v L X :: rv3 r R X' os)) : Sep w0.heap.size w0 w (rv3 r R X' (devOb v L X :: os)) := h.perm (List.perm_middle (l₁ := [_, _, _])).symm
theorem ps_tor {v r : Nat} {L : DLay} {R : RLay} {X X' : DevD} (h : Sep w0.heap.size w0 w (rv3 r R X' (devOb v L X :: os))) : Sep w0.heap.size w0 w (devOb v L X :: rv3 r R X' os) := h.perm (List.perm_middle (l₁ := [_, _, _]))
theorem ps_append1 (h : PS w0 w p q Y Z os) (hC : AllCells os) (hops : opsO Y < 4611686018427387904) (i : Int) {A : Option Addr} {m c : Nat} {b : List (BitVec 8)} (hv : Holds w0 (.slice A m c) b) (hb64 : b.length ≤ 1000000) :
    Calls Tryz.prog 8 #[.pointer p, .int .i64 i, .slice A m c] w fun e w' => e = .returned (.int .i64 (eO Y 1 (fun X => appVE X i b))) ∧ PS w0 w' p q (Y.map (fun X => appVX X i b)) Z os := by
  rcases h with ⟨rfl, rfl, rfl, rfl, hs⟩ | ⟨v, r, L, R, X, X', rfl, rfl, rfl, rfl, hX, hs⟩
  · exact (append_nodev (.inl rfl) i A m c).mono fun e w' ⟨h1, h2⟩ => ⟨h1, .inl ⟨rfl, rfl, rfl, rfl, hs.below h2⟩⟩
  · refine (sep_vappend hs (rv3_cells hC) hops i (fun W hW => hv.below hW.1)).mono ?_
    rintro e w' ⟨h1, L', h2⟩
    exact ⟨h1, .inr ⟨v, r, L', R, _, X', rfl, rfl, rfl, rfl, hX, h2⟩⟩
theorem ps_append2 (h : PS w0 w p q Y Z os) (hops : opsO Z < 4611686018427387904) (i : Int) {A : Option Addr} {m c : Nat} {b : List (BitVec 8)} (hv : Holds w0 (.slice A m c) b) (hb64 : b.length ≤ 1000000) :
    Calls Tryz.prog 9 #[.pointer q, .int .i64 i, .slice A m c] w fun e w' => e = .returned (.int .i64 (eO Z 1 (fun X => appVE X i b))) ∧ PS w0 w' p q Y (Z.map (fun X => appVX X i b)) os := by
  rcases h with ⟨rfl, rfl, rfl, rfl, hs⟩ | ⟨v, r, L, R, X, X', rfl, rfl, rfl, rfl, hX, hs⟩
  · exact (rno_append w i A m c).mono fun e w' ⟨h1, h2⟩ => ⟨h1, .inl ⟨rfl, rfl, rfl, rfl, hs.below h2⟩⟩
  · refine (rd_append (ps_rot hs) hX hops i (hv.below hs.bel) hb64).mono ?_
    rintro e w' ⟨h1, R', h2⟩
    exact ⟨h1, .inr ⟨v, r, L, R', X, _, rfl, rfl, rfl, rfl, appVX_ok hX _ _, ps_tor h2⟩⟩
theorem ps_sync1 (h : PS w0 w p q Y Z os) (hC : AllCells os) (hops : opsO Y < 4611686018427387904) (i : Int) :
    Calls Tryz.prog 10 #[.pointer p, .int .i64 i] w fun e w' => e = .returned (.int .i64 (eO Y 1 (fun X => oneVE X i))) ∧ PS w0 w' p q (Y.map (fun X => SyncVX X i)) Z os := by
  rcases h with ⟨rfl, rfl, rfl, rfl, hs⟩ | ⟨v, r, L, R, X, X', rfl, rfl, rfl, rfl, hX, hs⟩
  · exact (sync_nodev (.inl rfl) i).mono fun e w' ⟨h1, h2⟩ => ⟨h1, .inl ⟨rfl, rfl, rfl, rfl, hs.below h2⟩⟩
  · refine (sep_vsync hs (rv3_cells hC) hops i).mono ?_
    rintro e w' ⟨h1, L', h2⟩
    exact ⟨h1, .inr ⟨v, r, L', R, _, X', rfl, rfl, rfl, rfl, hX, h2⟩⟩
theorem ps_sync2 (h : PS w0 w p q Y Z os) (hops : opsO Z < 4611686018427387904) (i : Int) :
    Calls Tryz.prog 11 #[.pointer q, .int .i64 i] w fun e w' => e = .returned (.int .i64 (eO Z 1 (fun X => oneVE X i))) ∧ PS w0 w' p q Y (Z.map (fun X => SyncVX X i)) os := by
  rcases h with ⟨rfl, rfl, rfl, rfl, hs⟩ | ⟨v, r, L, R, X, X', rfl, rfl, rfl, rfl, hX, hs⟩
  · exact (rno_sync w i).mono fun e w' ⟨h1, h2⟩ => ⟨h1, .inl ⟨rfl, rfl, rfl, rfl, hs.below h2⟩⟩
  · refine (rd_sync (ps_rot hs) hX hops i).mono ?_
    rintro e w' ⟨h1, R', h2⟩
    exact ⟨h1, .inr ⟨v, r, L, R', X, _, rfl, rfl, rfl, rfl, syncVX_ok hX _, ps_tor h2⟩⟩
theorem ps_erase1 (h : PS w0 w p q Y Z os) (hC : AllCells os) (hops : opsO Y < 4611686018427387904) (i : Int) :
    Calls Tryz.prog 12 #[.pointer p, .int .i64 i] w fun e w' => e = .returned (.int .i64 (eO Y 1 (fun X => oneVE X i))) ∧ PS w0 w' p q (Y.map (fun X => EraseVX X i)) Z os := by
  rcases h with ⟨rfl, rfl, rfl, rfl, hs⟩ | ⟨v, r, L, R, X, X', rfl, rfl, rfl, rfl, hX, hs⟩
  · exact (erase_nodev (.inl rfl) i).mono fun e w' ⟨h1, h2⟩ => ⟨h1, .inl ⟨rfl, rfl, rfl, rfl, hs.below h2⟩⟩
  · refine (sep_verase hs (rv3_cells hC) hops i).mono ?_
    rintro e w' ⟨h1, L', h2⟩
    exact ⟨h1, .inr ⟨v, r, L', R, _, X', rfl, rfl, rfl, rfl, hX, h2⟩⟩
theorem ps_erase2 (h : PS w0 w p q Y Z os) (hops : opsO Z < 4611686018427387904) (i : Int) :
    Calls Tryz.prog 13 #[.pointer q, .int .i64 i] w fun e w' => e = .returned (.int .i64 (eO Z 1 (fun X => oneVE X i))) ∧ PS w0 w' p q Y (Z.map (fun X => EraseVX X i)) os := by
  rcases h with ⟨rfl, rfl, rfl, rfl, hs⟩ | ⟨v, r, L, R, X, X', rfl, rfl, rfl, rfl, hX, hs⟩
  · exact (rno_erase w i).mono fun e w' ⟨h1, h2⟩ => ⟨h1, .inl ⟨rfl, rfl, rfl, rfl, hs.below h2⟩⟩
  · refine (rd_erase (ps_rot hs) hX hops i).mono ?_
    rintro e w' ⟨h1, R', h2⟩
    exact ⟨h1, .inr ⟨v, r, L, R', X, _, rfl, rfl, rfl, rfl, eraseVX_ok hX _, ps_tor h2⟩⟩
theorem ps_restart1 (h : PS w0 w p q Y Z os) (hC : AllCells os) :
    Calls Tryz.prog 16 #[.pointer p] w fun e w' => e = .returned (.int .i64 (eO Y 1 (fun _ => 0))) ∧ PS w0 w' p q (Y.map (restartX)) Z os := by
  rcases h with ⟨rfl, rfl, rfl, rfl, hs⟩ | ⟨v, r, L, R, X, X', rfl, rfl, rfl, rfl, hX, hs⟩
  · exact (restart_nodev (.inl rfl)).mono fun e w' ⟨h1, h2⟩ => ⟨h1, .inl ⟨rfl, rfl, rfl, rfl, hs.below h2⟩⟩
  · refine (sep_vrestart hs).mono ?_
    rintro e w' ⟨h1, h2⟩
    exact ⟨h1, .inr ⟨v, r, L, R, _, X', rfl, rfl, rfl, rfl, hX, h2⟩⟩
theorem ps_restart2 (h : PS w0 w p q Y Z os) :
    Calls Tryz.prog 17 #[.pointer q] w fun e w' => e = .returned (.int .i64 (eO Z 1 (fun _ => 0))) ∧ PS w0 w' p q Y (Z.map (restartX)) os := by
  rcases h with ⟨rfl, rfl, rfl, rfl, hs⟩ | ⟨v, r, L, R, X, X', rfl, rfl, rfl, rfl, hX, hs⟩
  · exact (rno_restart w).mono fun e w' ⟨h1, h2⟩ => ⟨h1, .inl ⟨rfl, rfl, rfl, rfl, hs.below h2⟩⟩
  · refine (rd_restart (ps_rot hs) hX).mono ?_
    rintro e w' ⟨h1, h2⟩
    exact ⟨h1, .inr ⟨v, r, L, R, X, _, rfl, rfl, rfl, rfl, ⟨hX.n2, hX.n32, hX.tm⟩, ps_tor h2⟩⟩
theorem ps_down1 (h : PS w0 w p q Y Z os) :
    Calls Tryz.prog 29 #[.pointer p] w fun e w' => e = .returned (.bool (bO Y)) ∧ Below w.heap.size w w' := by
  rcases h with ⟨rfl, rfl, rfl, rfl, hs⟩ | ⟨v, r, L, R, X, X', rfl, rfl, rfl, rfl, hX, hs⟩
  · exact down_nodev (.inl rfl)
  · exact (dev_down hs.dev).mono fun e w' ⟨h1, h2⟩ => ⟨h1, by rw [← h2]; exact Below.refl _ _⟩
theorem ps_down2 (h : PS w0 w p q Y Z os) :
    Calls Tryz.prog 30 #[.pointer q] w fun e w' => e = .returned (.bool (bO Z)) ∧ Below w.heap.size w w' := by
  rcases h with ⟨rfl, rfl, rfl, rfl, hs⟩ | ⟨v, r, L, R, X, X', rfl, rfl, rfl, rfl, hX, hs⟩
  · exact rno_down w
  · exact (rd_down ((ps_rot hs).rd hX)).mono fun e w' ⟨h1, h2⟩ => ⟨h1, by rw [← h2]; exact Below.refl _ _⟩
theorem ps_ops1 (h : PS w0 w p q Y Z os) :
    Calls Tryz.prog 31 #[.pointer p] w fun e w' => e = .returned (.int .i64 (eO Y 0 (fun X => (X.ops : Int)))) ∧ Below w.heap.size w w' := by
  rcases h with ⟨rfl, rfl, rfl, rfl, hs⟩ | ⟨v, r, L, R, X, X', rfl, rfl, rfl, rfl, hX, hs⟩
  · exact ops_nodev (.inl rfl)
  · exact (dev_ops hs.dev).mono fun e w' ⟨h1, h2⟩ => ⟨h1, by rw [← h2]; exact Below.refl _ _⟩
theorem ps_ops2 (h : PS w0 w p q Y Z os) :
    Calls Tryz.prog 32 #[.pointer q] w fun e w' => e = .returned (.int .i64 (eO Z 0 (fun X => (X.ops : Int)))) ∧ Below w.heap.size w w' := by
  rcases h with ⟨rfl, rfl, rfl, rfl, hs⟩ | ⟨v, r, L, R, X, X', rfl, rfl, rfl, rfl, hX, hs⟩
  · exact rno_ops w
  · exact (rd_ops ((ps_rot hs).rd hX)).mono fun e w' ⟨h1, h2⟩ => ⟨h1, by rw [← h2]; exact Below.refl _ _⟩
theorem ps_slots1 (h : PS w0 w p q Y Z os) :
    Calls Tryz.prog 33 #[.pointer p] w fun e w' => e = .returned (.int .i64 (eO Y 0 (fun X => (X.n : Int)))) ∧ Below w.heap.size w w' := by
  rcases h with ⟨rfl, rfl, rfl, rfl, hs⟩ | ⟨v, r, L, R, X, X', rfl, rfl, rfl, rfl, hX, hs⟩
  · exact slots_nodev (.inl rfl)
  · exact (dev_slots hs.dev).mono fun e w' ⟨h1, h2⟩ => ⟨h1, by rw [← h2]; exact Below.refl _ _⟩
theorem ps_slots2 (h : PS w0 w p q Y Z os) :
    Calls Tryz.prog 34 #[.pointer q] w fun e w' => e = .returned (.int .i64 (eO Z 0 (fun X => (X.n : Int)))) ∧ Below w.heap.size w w' := by
  rcases h with ⟨rfl, rfl, rfl, rfl, hs⟩ | ⟨v, r, L, R, X, X', rfl, rfl, rfl, rfl, hX, hs⟩
  · exact rno_slots w
  · exact (rd_slots ((ps_rot hs).rd hX)).mono fun e w' ⟨h1, h2⟩ => ⟨h1, by rw [← h2]; exact Below.refl _ _⟩
theorem ps_len1 (h : PS w0 w p q Y Z os) (i : Int) :
    Calls Tryz.prog 22 #[.pointer p, .int .i64 i] w fun e w' => e = .returned (.tuple #[.int .i64 (eO Y 0 (fun X => lenV X i)), .int .i64 (eO Y 1 (fun X => chkE X i))]) ∧ Below w.heap.size w w' := by
  rcases h with ⟨rfl, rfl, rfl, rfl, hs⟩ | ⟨v, r, L, R, X, X', rfl, rfl, rfl, rfl, hX, hs⟩
  · exact len_nodev (.inl rfl) i
  · exact dev_len hs.dev i
theorem ps_len2 (h : PS w0 w p q Y Z os) (i : Int) :
    Calls Tryz.prog 23 #[.pointer q, .int .i64 i] w fun e w' => e = .returned (.tuple #[.int .i64 (eO Z 0 (fun X => lenV X i)), .int .i64 (eO Z 1 (fun X => chkE X i))]) ∧ Below w.heap.size w w' := by
  rcases h with ⟨rfl, rfl, rfl, rfl, hs⟩ | ⟨v, r, L, R, X, X', rfl, rfl, rfl, rfl, hX, hs⟩
  · exact rno_len w i
  · exact rd_len ((ps_rot hs).rd hX) i
theorem ps_room1 (h : PS w0 w p q Y Z os) (i : Int) :
    Calls Tryz.prog 26 #[.pointer p, .int .i64 i] w fun e w' => e = .returned (.tuple #[.int .i64 (eO Y 0 (fun X => roomV X i)), .int .i64 (eO Y 1 (fun X => chkE X i))]) ∧ Below w.heap.size w w' := by
  rcases h with ⟨rfl, rfl, rfl, rfl, hs⟩ | ⟨v, r, L, R, X, X', rfl, rfl, rfl, rfl, hX, hs⟩
  · exact room_nodev (.inl rfl) i
  · exact dev_room hs.dev i
theorem ps_room2 (h : PS w0 w p q Y Z os) (i : Int) :
    Calls Tryz.prog 27 #[.pointer q, .int .i64 i] w fun e w' => e = .returned (.tuple #[.int .i64 (eO Z 0 (fun X => roomV X i)), .int .i64 (eO Z 1 (fun X => chkE X i))]) ∧ Below w.heap.size w w' := by
  rcases h with ⟨rfl, rfl, rfl, rfl, hs⟩ | ⟨v, r, L, R, X, X', rfl, rfl, rfl, rfl, hX, hs⟩
  · exact rno_room w i
  · exact rd_room ((ps_rot hs).rd hX) i
theorem ps_uns1 (h : PS w0 w p q Y Z os) (i : Int) :
    Calls Tryz.prog 24 #[.pointer p, .int .i64 i] w fun e w' => e = .returned (.tuple #[.int .i64 (eO Y 0 (fun X => unsV X i)), .int .i64 (eO Y 1 (fun X => chkE X i))]) ∧ Below w.heap.size w w' := by
  rcases h with ⟨rfl, rfl, rfl, rfl, hs⟩ | ⟨v, r, L, R, X, X', rfl, rfl, rfl, rfl, hX, hs⟩
  · exact uns_nodev (.inl rfl) i
  · exact dev_unsynced hs.dev i
theorem ps_uns2 (h : PS w0 w p q Y Z os) (i : Int) :
    Calls Tryz.prog 25 #[.pointer q, .int .i64 i] w fun e w' => e = .returned (.tuple #[.int .i64 (eO Z 0 (fun X => unsV X i)), .int .i64 (eO Z 1 (fun X => chkE X i))]) ∧ Below w.heap.size w w' := by
  rcases h with ⟨rfl, rfl, rfl, rfl, hs⟩ | ⟨v, r, L, R, X, X', rfl, rfl, rfl, rfl, hX, hs⟩
  · exact rno_uns w i
  · exact rd_unsynced ((ps_rot hs).rd hX) i
end
end Go.Proofs.YteglaedkhopbgaaGreat
namespace Go.Proofs.YteglaedkhopbgaaGreat
open Go.RowKit Go.Shelf
set_option linter.unusedVariables false
section
variable {w0 w w' : World} {os : List Ob} {p q : Option Addr} {Y Z : Option DevD} {o : Ob}
theorem HoldsI.reads {A : Option Addr} {m c : Nat} {keep : List Int} (h : HoldsI w (.slice A m c) keep) : m ≤ c ∧ c ≤ maxLen ∧ Reads w w.heap.size 1 A m (ints keep) := by
  obtain ⟨⟨A', n', c', e, h0, h1, h2, h3⟩, _⟩ := h
  injection e with e1 e2 e3
  subst e1 e2 e3
  exact ⟨h1, h2, h3⟩
theorem ps_arm1 (h : PS w0 w p q Y Z os) (hC : AllCells os) (at_ : Int) (dn : Bool) {A : Option Addr} {m c : Nat} {keep : List Int} (hk : HoldsI w0 (.slice A m c) keep) (hz : A = none → c = 0) (hat : -9223372036854775808 ≤ at_ ∧ at_ ≤ 9223372036854775807) :
    Calls Tryz.prog 14 #[.pointer p, .agg #[.int .i64 at_, .bool dn, .slice A m c]] w fun e w' => e = .returned (.int .i64 (eO Y 1 (fun _ => armE at_ keep))) ∧ PS w0 w' p q (Y.map (fun X => armX X at_ dn keep)) Z os := by
  obtain ⟨hmc, hcm, hr⟩ := hk.reads
  rcases h with ⟨rfl, rfl, rfl, rfl, hs⟩ | ⟨v, r, L, R, X, X', rfl, rfl, rfl, rfl, hX, hs⟩
  · exact (arm_nodev (.inl rfl) at_ dn A m c).mono fun e w' ⟨h1, h2⟩ => ⟨h1, .inl ⟨rfl, rfl, rfl, rfl, hs.below h2⟩⟩
  · refine (sep_varm hs (rv3_cells hC) at_ dn A m c keep (fun W hW => (hr.below hW.1).more hW.1.size) hmc hcm hz (fun ad e hm0 hf => ?_) hat).mono ?_
    · obtain ⟨ad', e', hlt, _⟩ := hr.2 hm0
      rw [e] at e'
      injection e' with e'
      subst e'
      have := (hs.all _ (.head _)).2 _ hf
      omega
    · rintro e w' ⟨h1, L', h2⟩
      exact ⟨h1, .inr ⟨v, r, L', R, _, X', rfl, rfl, rfl, rfl, hX, h2⟩⟩
theorem ps_arm2 (h : PS w0 w p q Y Z os) (at_ : Int) (dn : Bool) {A : Option Addr} {m c : Nat} {keep : List Int} (hk : HoldsI w0 (.slice A m c) keep) (hat : -9223372036854775808 ≤ at_ ∧ at_ ≤ 9223372036854775807) :
    Calls Tryz.prog 15 #[.pointer q, .agg #[.int .i64 at_, .bool dn, .slice A m c]] w fun e w' => e = .returned (.int .i64 (eO Z 1 (fun _ => armE at_ keep))) ∧ PS w0 w' p q Y (Z.map (fun X => armX X at_ dn keep)) os := by
  obtain ⟨hmc, hcm, hr⟩ := hk.reads
  rcases h with ⟨rfl, rfl, rfl, rfl, hs⟩ | ⟨v, r, L, R, X, X', rfl, rfl, rfl, rfl, hX, hs⟩
  · exact (rno_arm w at_ dn A m c).mono fun e w' ⟨h1, h2⟩ => ⟨h1, .inl ⟨rfl, rfl, rfl, rfl, hs.below h2⟩⟩
  · refine (rd_arm (ps_rot hs) hX at_ dn A m c keep (fun W hW => (hr.below hW.1).more hW.1.size) hmc hcm hat).mono ?_
    rintro e w' ⟨h1, R', h2⟩
    exact ⟨h1, .inr ⟨v, r, L, R', X, _, rfl, rfl, rfl, rfl, armX_ok hX _ _ _, ps_tor h2⟩⟩
theorem ps_copy1 (h : PS w0 w p q Y Z os) :
    Calls Tryz.prog 18 #[.pointer p] w fun e w' => ∃ p', e = .returned (.pointer p') ∧ PS w0 w' p' q Y Z os := by
  rcases h with ⟨rfl, rfl, rfl, rfl, hs⟩ | ⟨v, r, L, R, X, X', rfl, rfl, rfl, rfl, hX, hs⟩
  · exact (copy_nodev (.inl rfl)).mono fun e w' ⟨h1, h2⟩ => ⟨none, h1, .inl ⟨rfl, rfl, rfl, rfl, hs.below h2⟩⟩
  · refine (sep_vcopy (hs.sub (.cons _ (List.Sublist.refl _))) hs.dev).mono ?_
    rintro e w' ⟨v', L', h1, h2⟩
    exact ⟨_, h1, .inr ⟨v', r, L', R, X, X', rfl, rfl, rfl, rfl, hX, h2⟩⟩
theorem ps_copy2 (h : PS w0 w p q Y Z os) :
    Calls Tryz.prog 19 #[.pointer q] w fun e w' => ∃ q', e = .returned (.pointer q') ∧ PS w0 w' p q' Y Z os := by
  rcases h with ⟨rfl, rfl, rfl, rfl, hs⟩ | ⟨v, r, L, R, X, X', rfl, rfl, rfl, rfl, hX, hs⟩
  · exact (rno_copy w).mono fun e w' ⟨h1, h2⟩ => ⟨none, h1, .inl ⟨rfl, rfl, rfl, rfl, hs.below h2⟩⟩
  · refine (rd_copy (ps_rot hs) hX).mono ?_
    rintro e w' ⟨r', R', h1, h2⟩
    exact ⟨_, h1, .inr ⟨v, r', L, R', X, X', rfl, rfl, rfl, rfl, hX, ps_tor h2⟩⟩
/-- What a read gives: bytes and an error. -/
def RdR (Y : Option DevD) (i off m : Int) (l : List (BitVec 8)) (k : Int) : Prop :=
  (Y = none ∧ l = [] ∧ k = 1) ∨ ∃ X, Y = some X ∧ ((chkE X i ≠ 0 ∧ k = chkE X i ∧ l = []) ∨ (chkE X i = 0 ∧ ∃ s : Nat, i = (s : Int) ∧ ((badRead (X.D s).bytes.length off m ∧ k = 3 ∧ l = []) ∨ ∃ a b : Nat, off = a ∧ m = b ∧ a + b ≤ (X.D s).bytes.length ∧ k = 0 ∧ l = ((X.D s).bytes.drop a).take b)))
theorem RdR.same {i off m : Int} {l l' : List (BitVec 8)} {k k' : Int} (h : RdR Y i off m l k) (h' : RdR Y i off m l' k') : l = l' ∧ k = k' := by
  rcases h with ⟨rfl, rfl, rfl⟩ | ⟨X, rfl, h⟩
  · rcases h' with ⟨_, rfl, rfl⟩ | ⟨X, e, _⟩
    · exact ⟨rfl, rfl⟩
    · cases e
  · rcases h' with ⟨e, _⟩ | ⟨X', e, h'⟩
    · cases e
    · injection e with e
      subst e
      rcases h with ⟨h1, rfl, rfl⟩ | ⟨h1, s, rfl, h⟩ <;> rcases h' with ⟨g1, rfl, rfl⟩ | ⟨g1, s', e, h'⟩
      · exact ⟨rfl, rfl⟩
      · exact absurd g1 h1
      · exact absurd h1 g1
      · obtain rfl : s = s' := by omega
        rcases h with ⟨b1, rfl, rfl⟩ | ⟨a, b, rfl, rfl, b1, rfl, rfl⟩ <;> rcases h' with ⟨b2, rfl, rfl⟩ | ⟨a', b', e1, e2, b2, rfl, rfl⟩
        · exact ⟨rfl, rfl⟩
        · unfold badRead at b1; omega
        · unfold badRead at b2; omega
        · obtain rfl : a = a' := by omega
          obtain rfl : b = b' := by omega
          exact ⟨rfl, rfl⟩
def ReadQ2 (Y : Option DevD) (w : World) (i off m : Int) (e : Ending) (w' : World) : Prop :=
  ∃ A n c l k, e = .returned (.tuple #[.slice A n c, .int .i64 k]) ∧ RdR Y i off m l k ∧ n ≤ 8192 ∧ Reads w' w'.heap.size 1 A n (u8s l) ∧ Below w.heap.size w w'
theorem readQ2_of {X : DevD} {i off m : Int} {u : Value} {k : Int} (hn : ∀ s, s < X.n + 2 → (X.D s).bytes.length ≤ 8192) (h : VReadQ w X i off m u k w') (hb : Below w.heap.size w w') : ReadQ2 (some X) w i off m (.returned (.tuple #[u, .int .i64 k])) w' := by
  have hnil : Reads w' w'.heap.size 1 none 0 (u8s []) := ⟨by simp [u8s], fun h => absurd h (by omega)⟩
  rcases h with ⟨h1, rfl, rfl⟩ | ⟨h1, s, rfl, hs, ⟨h2, rfl, rfl⟩ | ⟨a, b, rfl, rfl, hab, rfl, ho⟩⟩
  · exact ⟨none, 0, 0, [], _, rfl, .inr ⟨X, rfl, .inl ⟨h1, rfl, rfl⟩⟩, by omega, hnil, hb⟩
  · exact ⟨none, 0, 0, [], _, rfl, .inr ⟨X, rfl, .inr ⟨h1, s, rfl, .inl ⟨h2, rfl, rfl⟩⟩⟩, by omega, hnil, hb⟩
  · obtain ⟨A, c, rfl, _, _, hr⟩ := own_slice ho
    exact ⟨A, b, c, _, _, rfl, .inr ⟨X, rfl, .inr ⟨h1, s, rfl, .inr ⟨a, b, rfl, rfl, hab, rfl, rfl⟩⟩⟩, by have := hn s hs; omega, hr, hb⟩
theorem readQ2_no {i off m : Int} (hb : Below w.heap.size w w') : ReadQ2 none w i off m (.returned (.tuple #[.slice none 0 0, .int .i64 1])) w' :=
  ⟨none, 0, 0, [], _, rfl, .inl ⟨rfl, rfl, rfl⟩, by omega, ⟨by simp [u8s], fun h => absurd h (by omega)⟩, hb⟩
theorem ps_read1 (h : PS w0 w p q Y Z os) (i off m : Int) :
    Calls Tryz.prog 20 #[.pointer p, .int .i64 i, .int .i64 off, .int .i64 m] w (ReadQ2 Y w i off m) := by
  rcases h with ⟨rfl, rfl, rfl, rfl, hs⟩ | ⟨v, r, L, R, X, X', rfl, rfl, rfl, rfl, hX, hs⟩
  · exact (read_nodev (.inl rfl) i off m).mono fun e w' ⟨h1, h2⟩ => by rw [h1]; exact readQ2_no h2
  · refine (dev_read hs.dev i off m).mono ?_
    rintro e w' ⟨u, k, rfl, hq, hb⟩
    exact readQ2_of (fun s hs' => by have := hs.dev.disk.nums hs'; omega) hq hb
theorem ps_read2 (h : PS w0 w p q Y Z os) (i off m : Int) :
    Calls Tryz.prog 21 #[.pointer q, .int .i64 i, .int .i64 off, .int .i64 m] w (ReadQ2 Z w i off m) := by
  rcases h with ⟨rfl, rfl, rfl, rfl, hs⟩ | ⟨v, r, L, R, X, X', rfl, rfl, rfl, rfl, hX, hs⟩
  · exact (rno_read w i off m).mono fun e w' ⟨h1, h2⟩ => by rw [h1]; exact readQ2_no h2
  · refine (rd_read ((ps_rot hs).rd hX) i off m).mono ?_
    rintro e w' ⟨u, k, rfl, hq, hb⟩
    exact readQ2_of (fun s hs' => by have := ((ps_rot hs).rd hX).disk.nums s hs'; omega) hq hb
/-- A disk and the document's, or nil. -/
def DK (w : World) (x : Option Addr) (Y : Option DevD) : Prop := (x = none ∧ Y = none) ∨ ∃ d rb lay X, x = some ⟨d, 0, none⟩ ∧ Y = some X ∧ X.Ok ∧ IsDisk w d rb (X.n + 2) lay X.D
def RK (w : World) (y : Option Addr) (Z : Option DevD) : Prop := (y = none ∧ Z = none) ∨ ∃ g S X, y = some ⟨g, 0, none⟩ ∧ Z = some X ∧ X.Ok ∧ IsR w S g (X.n + 2) X.D
theorem DK.below {x : Option Addr} (h : DK w x Y) (hb : Below w.heap.size w w') : DK w' x Y := by
  rcases h with h | ⟨d, rb, lay, X, h1, h2, h3, h4⟩
  · exact .inl h
  · exact .inr ⟨d, rb, lay, X, h1, h2, h3, h4.below hb⟩
theorem RK.below {x : Option Addr} (h : RK w x Y) (hb : Below w.heap.size w w') : RK w' x Y := by
  rcases h with h | ⟨d, S, X, h1, h2, h3, h4⟩
  · exact .inl h
  · exact .inr ⟨d, S, X, h1, h2, h3, h4.below hb⟩
theorem ps_disk1 (h : PS w0 w p q Y Z os) :
    Calls Tryz.prog 36 #[.pointer p] w fun e w' => ∃ x, e = .returned (.pointer x) ∧ DK w' x Y ∧ Below w.heap.size w w' := by
  rcases h with ⟨rfl, rfl, rfl, rfl, hs⟩ | ⟨v, r, L, R, X, X', rfl, rfl, rfl, rfl, hX, hs⟩
  · exact (disk_nodev (.inl rfl)).mono fun e w' ⟨h1, h2⟩ => ⟨none, h1, .inl ⟨rfl, rfl⟩, h2⟩
  · refine (dev_disk hs.dev).mono ?_
    rintro e w' ⟨d', rb', lay', h1, h2, h3, h4⟩
    exact ⟨_, h1, .inr ⟨d', rb', lay', X, rfl, rfl, hs.dev.ok, h2⟩, h4⟩
theorem ps_disk2 (h : PS w0 w p q Y Z os) :
    Calls Tryz.prog 37 #[.pointer q] w fun e w' => ∃ y, e = .returned (.pointer y) ∧ RK w' y Z ∧ Below w.heap.size w w' := by
  rcases h with ⟨rfl, rfl, rfl, rfl, hs⟩ | ⟨v, r, L, R, X, X', rfl, rfl, rfl, rfl, hX, hs⟩
  · exact (rno_disk w).mono fun e w' ⟨h1, h2⟩ => ⟨none, h1, .inl ⟨rfl, rfl⟩, h2⟩
  · refine (rd_disk ((ps_rot hs).rd hX)).mono ?_
    rintro e w' ⟨d', S', h1, h2, h4⟩
    exact ⟨_, h1, .inr ⟨d', S', X', rfl, rfl, hX, h2⟩, h4⟩
end
end Go.Proofs.YteglaedkhopbgaaGreat
namespace Go.Proofs.YteglaedkhopbgaaGreat
open Go.RowKit Go.Shelf
set_option linter.unusedVariables false
section
variable {w w' : World} {x y : Option Addr} {Y : Option DevD}
theorem rslots_b {S : Nat → Prop} {d n : Nat} {D : Nat → SlotD} (h : IsR w S d n D) (hn : 0 < n) : Calls Tryz.prog 79 #[.pointer (some ⟨d, 0, none⟩)] w fun e w' => e = .returned (.int .i64 (n : Int)) ∧ w = w' := rslots h hn
set_option maxRecDepth 100000 in
set_option maxHeartbeats 4000000 in
theorem disks_any (hx : DK w x Y) (hy : RK w y Y) :
    Calls Tryz.prog 35 #[.pointer x, .pointer y] w fun e w' => e = .returned (.bool true) ∧ Below w.heap.size w w' := by
  rcases hx with ⟨rfl, rfl⟩ | ⟨d, rb, lay, X, rfl, rfl, hX, hd⟩
  · rcases hy with ⟨rfl, _⟩ | ⟨g, S, X, _, e, _⟩
    · have HS1 : Hid (Calls Tryz.prog 78 #[.pointer none] w fun e w' => e = .returned (.int .i64 0) ∧ w = w') := slots_nodisk (.inl rfl)
      have HS2 := Lib.hid (rslots_nil w)
      go_enter Tryz.func35, Tryz.ntmps35
      go_wp2_with fail
      refine HS1.out.mono ?_
      rintro e w1 ⟨rfl, rfl⟩
      go_wp2_with fail
      refine HS2.out.mono ?_
      rintro e w1 ⟨rfl, rfl⟩
      go_wp2_with fail
      go_loopg [5] 0 (fun q v5 wr => v5 = .int .i64 0 ∧ w = wr)
      case atStart => exact ⟨rfl, rfl⟩
      case round =>
        obtain ⟨rfl, rfl⟩ := hrel
        go_wp2_with fail
        refine HS2.out.mono ?_
        rintro e w1 ⟨rfl, rfl⟩
        go_wp2_with fail
        go_ret
        exact ⟨rfl, Below.refl _ _⟩
    · cases e
  · rcases hy with ⟨_, e⟩ | ⟨g, S, X', rfl, e, _, hr⟩
    · cases e
    injection e with e
    subst e
    obtain ⟨n, hn⟩ : ∃ n, X.n + 2 = n := ⟨_, rfl⟩
    obtain ⟨D, hD⟩ : ∃ D, X.D = D := ⟨_, rfl⟩
    have hn0 : 0 < n := by omega
    have hn34 : n ≤ 34 := by have := hX.n32; omega
    rw [hn, hD] at hd hr
    have HD := Lib.hid hd
    have HR := Lib.hid hr
    clear hn hD hX hd hr
    go_enter Tryz.func35, Tryz.ntmps35
    go_wp2_with fail
    refine (slots_disk HD.out hn0).mono ?_
    rintro e w1 ⟨rfl, rfl⟩
    go_wp2_with fail
    refine (rslots HR.out hn0).mono ?_
    rintro e w1 ⟨rfl, rfl⟩
    go_wp2_with fail
    go_loopg [5] n (fun q v5 wr => ∃ j : Nat, j + q = n ∧ v5 = .int .i64 j ∧ Below w.heap.size w wr)
    case atStart => exact ⟨0, by omega, rfl, Below.refl _ _⟩
    case round =>
      obtain ⟨j, hj, rfl, hb⟩ := hrel
      have HJ := Lib.hid hj
      have HB := Lib.hid hb
      have hj' : j ≤ n := by omega
      clear hj hb
      have HS := Lib.hid (rslots (HR.out.below HB.out) hn0)
      by_cases hlt : j < n
      · go_wp2_with fail
        refine HS.out.mono ?_
        rintro e w1 ⟨rfl, rfl⟩
        go_wp2_with fail
        have hnum := HR.out.nums j hlt
        obtain ⟨ln, hln⟩ : ∃ ln, (D j).bytes.length = ln := ⟨_, rfl⟩
        obtain ⟨du, hdu⟩ : ∃ du, (D j).dur = du := ⟨_, rfl⟩
        obtain ⟨bs, hbs⟩ : ∃ bs, (D j).bytes = bs := ⟨_, rfl⟩
        have hl8 : ln ≤ 8192 := by omega
        have HLN : Hid ((D j).bytes.length = ln) := hln
        have HDU : Hid ((D j).dur = du) := hdu
        clear hnum hln hdu
        have C1 := Lib.hid (disk_len (HD.out.below HB.out) hn0 j hlt)
        rw [HLN.out] at C1
        refine C1.out.mono ?_
        rintro e w2 ⟨rfl, hb⟩
        have HB2 := Lib.hid (HB.out.trans (hb.mono HB.out.size))
        clear hb C1
        go_wp2_with fail
        have C2 := Lib.hid (rlen_b (HR.out.below HB2.out) hn0 j hlt)
        rw [HLN.out] at C2
        refine C2.out.mono ?_
        rintro e w3 ⟨rfl, hb⟩
        have HB3 := Lib.hid (HB2.out.trans (hb.mono HB2.out.size))
        clear hb C2
        go_wp2_with fail
        have C3 := Lib.hid (disk_durable (HD.out.below HB3.out) hn0 j hlt)
        rw [HDU.out] at C3
        refine C3.out.mono ?_
        rintro e w4 ⟨rfl, hb⟩
        have HB4 := Lib.hid (HB3.out.trans (hb.mono HB3.out.size))
        clear hb C3
        go_wp2_with fail
        have C4 := Lib.hid (rdurable_b (HR.out.below HB4.out) hn0 j hlt)
        rw [HDU.out] at C4
        refine C4.out.mono ?_
        rintro e w5 ⟨rfl, hb⟩
        have HB5 := Lib.hid (HB4.out.trans (hb.mono HB4.out.size))
        clear hb C4
        go_wp2_with fail
        have C5 := Lib.hid (disk_read_ok (HD.out.below HB5.out) hn0 j hlt 0 ln (by rw [HLN.out]; omega))
        refine C5.out.mono ?_
        rintro e w6 ⟨u, rfl, ho, hb⟩
        obtain ⟨A1, c1, rfl, _, _, hr1⟩ := own_slice ho
        have HR1 := Lib.hid hr1
        have HB6 := Lib.hid (HB5.out.trans (hb.mono HB5.out.size))
        clear hb C5 ho hr1
        go_wp2_with fail
        have C6 := Lib.hid (rread (HR.out.below HB6.out) hn0 j hlt 0 ln (by rw [HLN.out]; omega))
        refine C6.out.mono ?_
        rintro e w7 ⟨u, rfl, ho, hb⟩
        obtain ⟨A2, c2, rfl, _, _, hr2⟩ := own_slice ho
        have HR2 := Lib.hid hr2
        have HB7 := Lib.hid (HB6.out.trans (hb.mono HB6.out.size))
        have HR1b := Lib.hid ((HR1.out.below hb).more hb.size)
        clear hb C6 ho hr2 HR1
        go_wp2_with fail
        refine (rsame A1 A2 ln c1 c2 _ w7 (by omega) HR1b.out HR2.out).mono ?_
        rintro e w8 ⟨rfl, q8, rfl⟩
        obtain ⟨W8, hW8⟩ : ∃ W8, W8 = w7.drewN q8 := ⟨_, rfl⟩
        have HB8 : Hid (Below w.heap.size w W8) := by
          rw [hW8]
          exact HB7.out.trans ((bel_drewN' w7 q8).mono HB7.out.size)
        rw [← hW8]
        clear hW8
        go_wp2_with fail
        go_roundg (gk - 1)
        case measure => have := HJ.out; omega
        case rel => exact ⟨j + 1, by have := HJ.out; omega, by go_num, HB8.out⟩
      · have e8 : j = n := by omega
        subst e8
        go_wp2_with fail
        refine HS.out.mono ?_
        rintro e w1 ⟨rfl, rfl⟩
        go_wp2_with fail
        go_ret
        exact ⟨rfl, HB.out⟩
end
end Go.Proofs.YteglaedkhopbgaaGreat

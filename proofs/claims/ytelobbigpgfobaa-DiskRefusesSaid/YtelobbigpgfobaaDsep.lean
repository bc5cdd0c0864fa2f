/-
  A disk's methods among other objects of a call's own. Conditions: the disk is as New makes it; the objects lie apart.
-/
import Derived.Test.YtelobbigpgfobaaDshow
namespace Go.Proofs.Ytelobbigpgfobaa
open Go.RowKit
set_option linter.unusedVariables false
section
variable {B : Nat} {w0 w w' : World} {os : List Ob} {d n : Nat} {rb : Option Nat} {lay : Lay} {D : Nat → SlotD}
theorem Sep.diskTo (h : Sep B w0 w (diskOb d rb n lay D :: os)) {D' : Nat → SlotD} (ht : DiskTo w w' d rb n lay D') : ∃ lay', Sep B w0 w' (diskOb d rb n lay' D' :: os) := by
  obtain ⟨lay', h1, h2, h3⟩ := ht
  exact ⟨lay', h.step (a' := diskOb d rb n lay' D') h2 h1 h3⟩
theorem Sep.disk (h : Sep B w0 w (diskOb d rb n lay D :: os)) : IsDisk w d rb n lay D := h.get (.head _)
theorem Sep.dcongr (h : Sep B w0 w (diskOb d rb n lay D :: os)) {D' : Nat → SlotD} (hD : ∀ i, i < n → D' i = D i) : Sep B w0 w (diskOb d rb n lay D' :: os) :=
  h.step (a' := diskOb d rb n lay D') (Chg.refl _ _) (h.disk.congr hD) (fun _ hk => .inl hk)
theorem sep_dappend (h : Sep B w0 w (diskOb d rb n lay D :: os)) (hn : 0 < n) (i : Nat) (hi : i < n) {v : Value} {b : List (BitVec 8)} (hv : Holds w v b) :
    Calls Try.prog 18 #[.pointer (some ⟨d, 0, none⟩), .int .i64 (i : Int), v] w fun e w' => e = .returned (.int .i64 (appE D i b)) ∧ ∃ lay', Sep B w0 w' (diskOb d rb n lay' (appD D i b) :: os) :=
  (disk_append h.disk hn i hi v b hv).mono fun e w' ⟨h1, h2⟩ => ⟨h1, h.diskTo h2⟩
theorem sep_dsync (h : Sep B w0 w (diskOb d rb n lay D :: os)) (hn : 0 < n) (i : Nat) (hi : i < n) :
    Calls Try.prog 19 #[.pointer (some ⟨d, 0, none⟩), .int .i64 (i : Int)] w fun e w' => e = .returned (.int .i64 0) ∧ ∃ lay', Sep B w0 w' (diskOb d rb n lay' (syncD D i) :: os) :=
  (disk_sync h.disk hn i hi).mono fun e w' ⟨h1, h2⟩ => ⟨h1, h.diskTo h2⟩
theorem sep_derase (h : Sep B w0 w (diskOb d rb n lay D :: os)) (hn : 0 < n) (i : Nat) (hi : i < n) :
    Calls Try.prog 20 #[.pointer (some ⟨d, 0, none⟩), .int .i64 (i : Int)] w fun e w' => e = .returned (.int .i64 0) ∧ ∃ lay', Sep B w0 w' (diskOb d rb n lay' (eraseD D i) :: os) :=
  (disk_erase h.disk hn i hi).mono fun e w' ⟨h1, h2⟩ => ⟨h1, h.diskTo h2⟩
theorem sep_dnew (h : Sep B w0 w os) (A : Option Addr) (n c : Nat) (zs : List Int) (hr : Reads w w.heap.size 1 A n (ints zs)) (h1 : 1 ≤ n) (h2 : n ≤ 34) (hz : ∀ z ∈ zs, okSize z) :
    Calls Try.prog 21 #[.slice A n c] w fun e w' => ∃ d rb lay, e = .returned (.tuple #[.pointer (some ⟨d, 0, none⟩), .int .i64 0]) ∧ Sep B w0 w' (diskOb d rb n lay (newD zs) :: os) := by
  refine (newdisk_any A n c zs w hr h1 h2).mono ?_
  rintro e w' (⟨_, d, rb, lay, rfl, k1, k2, k3⟩ | ⟨⟨z, hz1, hz2⟩, _⟩)
  · exact ⟨d, rb, lay, rfl, h.add (a := diskOb d rb n lay (newD zs)) k3 k1 k2⟩
  · exact absurd (hz z hz1) hz2
theorem sep_dcopy (h : Sep B w0 w os) (hd : IsDisk w d rb n lay D) (hn : 0 < n) (hm34 : n ≤ 65536) :
    Calls Try.prog 29 #[.pointer (some ⟨d, 0, none⟩)] w fun e w' => ∃ d' rb' lay', e = .returned (.pointer (some ⟨d', 0, none⟩)) ∧ Sep B w0 w' (diskOb d' rb' n lay' D :: os) := by
  refine (copydisk hd hn hm34).mono ?_
  rintro e w' ⟨d', rb', lay', rfl, k1, k2, k3⟩
  exact ⟨d', rb', lay', rfl, h.add (a := diskOb d' rb' n lay' D) k3 k1 k2⟩
end
theorem nums_new (W : World) (fr : Nat × Nat) (zs : List Int) (n : Nat) (cs : Array Value) (hn : n = zs.length) (hcs : cs = (ints zs).toArray) :
    Reads (W.alloc (.cells cs 3 fr)) (W.heap.size + 1) 1 (some ⟨W.heap.size, 0, none⟩) n (ints zs) := by
  subst hcs hn
  have := reads_news W 3 (ints zs).toArray fr zs.length (by simp [ints])
  simpa using this
/-- A disk of two slots. -/
def twoD (x y : SlotD) : Nat → SlotD := fun i => if i = 0 then x else y
theorem twoD_of {D : Nat → SlotD} {x y : SlotD} (h0 : D 0 = x) (h1 : D 1 = y) : ∀ i, i < 2 → twoD x y i = D i := by
  intro i hi
  have : i = 0 ∨ i = 1 := by omega
  rcases this with rfl | rfl
  · exact h0.symm
  · exact h1.symm
theorem strOf_lit {l : List (BitVec 8)} {a : Array UInt8} (h : (l.map fun b => UInt8.ofNat b.toNat) = a.toList) : strOf l = ⟨a⟩ := by
  apply ByteArray.ext
  apply Array.toList_inj.1
  rw [strOf_list, h]
end Go.Proofs.Ytelobbigpgfobaa

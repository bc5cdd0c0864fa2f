/-
  A disk's methods and the document's at any slot, among other objects of a call's own. Conditions: the disks are as New makes them; the objects lie apart.
-/
import Derived.Test.YtelobbigpgfobaaDsep
namespace Go.Proofs.Ytelobbigpgfobaa
open Go.RowKit
set_option linter.unusedVariables false
def appEI (n : Nat) (D : Nat → SlotD) (i : Int) (b : List (BitVec 8)) : Int := if inRange n i then appE D i.toNat b else 3
def appDI (n : Nat) (D : Nat → SlotD) (i : Int) (b : List (BitVec 8)) : Nat → SlotD := if inRange n i then appD D i.toNat b else D
def okEI (n : Nat) (i : Int) : Int := if inRange n i then 0 else 3
def syncDI (n : Nat) (D : Nat → SlotD) (i : Int) : Nat → SlotD := if inRange n i then syncD D i.toNat else D
def eraseDI (n : Nat) (D : Nat → SlotD) (i : Int) : Nat → SlotD := if inRange n i then eraseD D i.toNat else D
def okKeep (zs : List Int) : Prop := 1 ≤ zs.length ∧ zs.length ≤ 34 ∧ ∀ z ∈ zs, 0 ≤ z
instance (zs : List Int) : Decidable (okKeep zs) := by unfold okKeep; infer_instance
def crashEI (zs : List Int) : Int := if okKeep zs then 0 else 2
def crashDI (zs : List Int) (D : Nat → SlotD) : Nat → SlotD := if okKeep zs then crashD zs D else D
theorem in_or (n : Nat) (i : Int) : (∃ s : Nat, i = (s : Int) ∧ s < n ∧ inRange n i ∧ i.toNat = s) ∨ ((i < 0 ∨ (n : Int) ≤ i) ∧ ¬ inRange n i) := by
  by_cases h : inRange n i
  · obtain ⟨h1, h2⟩ := h
    exact .inl ⟨i.toNat, by omega, by omega, ⟨h1, h2⟩, rfl⟩
  · exact .inr ⟨by unfold inRange at h; omega, h⟩
theorem keep_or (zs : List Int) : okKeep zs ∨ (¬ okKeep zs ∧ (zs.length < 1 ∨ 34 < zs.length ∨ ∃ z ∈ zs, z < 0)) := by
  by_cases h : okKeep zs
  · exact .inl h
  · refine .inr ⟨h, ?_⟩
    by_cases h1 : zs.length < 1
    · exact .inl h1
    by_cases h2 : 34 < zs.length
    · exact .inr (.inl h2)
    refine .inr (.inr ?_)
    apply Classical.byContradiction
    intro hn
    exact h ⟨by omega, by omega, fun z hz => by
      apply Classical.byContradiction
      intro h3
      exact hn ⟨z, hz, by omega⟩⟩
section
variable {B : Nat} {w0 w w' : World} {os : List Ob} {x : Ob} {d g n : Nat} {rb : Option Nat} {lay : Lay} {D D' : Nat → SlotD} {S : Nat → Prop} {l : List (Nat × (Nat → SlotD))}
theorem Sep.refTo (h : Sep B w0 w (refsOb S n ((g, D) :: l) :: os)) (ht : RTo w w' S g n D') : ∃ S', Sep B w0 w' (refsOb S' n ((g, D') :: l) :: os) := by
  obtain ⟨S', h1, h2, h3, h4⟩ := ht
  obtain ⟨p1, p2, p3⟩ : (∀ p, p ∈ (g, D) :: l → IsR w S p.1 n p.2) ∧ ((g, D) :: l).Pairwise (fun (p q : Nat × (Nat → SlotD)) => p.1 ≠ q.1) ∧ CellsIn w S := h.get (.head _)
  have hg : IsR w S g n D := p1 _ (.head _)
  obtain ⟨q1, q2⟩ := List.pairwise_cons.1 p2
  refine ⟨S', h.step (a' := refsOb S' n ((g, D') :: l)) (h4.mono (fun k _ hk => .inr ⟨_, .head _, hk.symm⟩)) ⟨fun p hp => ?_, List.pairwise_cons.2 ⟨q1, q2⟩, h1.cel⟩ (fun k hk => ?_)⟩
  · rcases List.mem_cons.1 hp with rfl | hp
    · exact h1
    · have hpr := p1 p (.tail _ hp)
      have hne := q1 p hp
      refine (hpr.chg h4 (fun e => hne e.symm) (fun k hk e => hg.nd (by rw [← e]; exact hk))).more h2 (fun e => ?_) h1.cel
      rcases h3 _ e with e | e
      · exact hpr.nd e
      · have := hpr.blk_lt; omega
  · rcases hk with hk | ⟨p, hp, rfl⟩
    · rcases h3 k hk with e | e
      · exact .inl (.inl e)
      · exact .inr e
    · rcases List.mem_cons.1 hp with rfl | hp
      · exact .inl (.inr ⟨_, .head _, rfl⟩)
      · exact .inl (.inr ⟨p, .tail _ hp, rfl⟩)
theorem Sep.refTo1 (h : Sep B w0 w (x :: refsOb S n ((g, D) :: l) :: os)) (ht : RTo w w' S g n D') : ∃ S', Sep B w0 w' (x :: refsOb S' n ((g, D') :: l) :: os) := by
  obtain ⟨S', h2⟩ := (h.perm (.swap _ _ _)).refTo ht
  exact ⟨S', h2.perm (.swap _ _ _)⟩
theorem Sep.ref1 (h : Sep B w0 w (x :: refsOb S n ((g, D) :: l) :: os)) : IsR w S g n D := by
  have h' : (∀ p, p ∈ (g, D) :: l → IsR w S p.1 n p.2) ∧ _ := h.get (.tail _ (.head _))
  exact h'.1 _ (.head _)
theorem Sep.ref1nd (h : Sep B w0 w (x :: refsOb S n ((g, D) :: l) :: os)) : B ≤ g := (h.all _ (.tail _ (.head _))).2 g (.inr ⟨_, .head _, rfl⟩)
theorem sepI_append (h : Sep B w0 w (diskOb d rb n lay D :: os)) (hn : 0 < n) (i : Int) {v : Value} {b : List (BitVec 8)} (hv : Holds w v b) :
    Calls Try.prog 18 #[.pointer (some ⟨d, 0, none⟩), .int .i64 i, v] w fun e w' => e = .returned (.int .i64 (appEI n D i b)) ∧ ∃ lay', Sep B w0 w' (diskOb d rb n lay' (appDI n D i b) :: os) := by
  unfold appEI appDI
  rcases in_or n i with ⟨s, rfl, hs, hin, ht⟩ | ⟨ho, hno⟩
  · rw [if_pos hin, if_pos hin, ht]
    exact sep_dappend h hn s hs hv
  · rw [if_neg hno, if_neg hno]
    obtain ⟨A, m, c, rfl, _⟩ := hv
    exact (disk_append_range h.disk hn i ho A m c).mono fun e w' ⟨h1, h2⟩ => ⟨h1, lay, h.below h2⟩
theorem sepI_sync (h : Sep B w0 w (diskOb d rb n lay D :: os)) (hn : 0 < n) (i : Int) :
    Calls Try.prog 19 #[.pointer (some ⟨d, 0, none⟩), .int .i64 i] w fun e w' => e = .returned (.int .i64 (okEI n i)) ∧ ∃ lay', Sep B w0 w' (diskOb d rb n lay' (syncDI n D i) :: os) := by
  unfold okEI syncDI
  rcases in_or n i with ⟨s, rfl, hs, hin, ht⟩ | ⟨ho, hno⟩
  · rw [if_pos hin, if_pos hin, ht]
    exact sep_dsync h hn s hs
  · rw [if_neg hno, if_neg hno]
    exact (disk_sync_range h.disk hn i ho).mono fun e w' ⟨h1, h2⟩ => ⟨h1, lay, by rw [← h2]; exact h⟩
theorem sepI_erase (h : Sep B w0 w (diskOb d rb n lay D :: os)) (hn : 0 < n) (i : Int) :
    Calls Try.prog 20 #[.pointer (some ⟨d, 0, none⟩), .int .i64 i] w fun e w' => e = .returned (.int .i64 (okEI n i)) ∧ ∃ lay', Sep B w0 w' (diskOb d rb n lay' (eraseDI n D i) :: os) := by
  unfold okEI eraseDI
  rcases in_or n i with ⟨s, rfl, hs, hin, ht⟩ | ⟨ho, hno⟩
  · rw [if_pos hin, if_pos hin, ht]
    exact sep_derase h hn s hs
  · rw [if_neg hno, if_neg hno]
    exact (disk_erase_range h.disk hn i ho).mono fun e w' ⟨h1, h2⟩ => ⟨h1, lay, by rw [← h2]; exact h⟩
theorem sepI_crash (h : Sep B w0 w (diskOb d rb n lay D :: os)) (hC : AllCells os) (hn : 0 < n) (hm34 : n ≤ 65536) (A : Option Addr) (m c : Nat) (zs : List Int) (hm : m ≤ maxLen)
    (hr : ∀ X D', Sep B w0 X (diskOb d rb n lay D' :: os) → Reads X X.heap.size 1 A m (ints zs)) (hz : ∀ z ∈ zs, z ≤ 9223372036854775807) :
    Calls Try.prog 22 #[.pointer (some ⟨d, 0, none⟩), .slice A m c] w fun e w' => e = .returned (.int .i64 (crashEI zs)) ∧ Sep B w0 w' (diskOb d rb n lay (crashDI zs D) :: os) := by
  have hlen : zs.length = m := by have := (hr w D h).1; rw [ints_length] at this; omega
  unfold crashEI crashDI
  rcases keep_or zs with hk | ⟨hk, hb⟩
  · rw [if_pos hk, if_pos hk]
    exact sep_crashdisk h hC hn hm34 A m c zs hr (by rw [← hlen]; exact hk.1) (by rw [← hlen]; exact hk.2.1) (fun z hz' => ⟨hk.2.2 z hz', hz z hz'⟩)
  · rw [if_neg hk, if_neg hk]
    exact (crashdisk_bad h.disk hn A m c zs hm (hr w D h) (by rw [← hlen]; exact hb)).mono fun e w' ⟨h1, h2⟩ => ⟨h1, h.below h2⟩
/-! ### the document's -/
theorem rsepI_append (h : Sep B w0 w (x :: refsOb S n ((g, D) :: l) :: os)) (hn : 0 < n) (hm34 : n ≤ 65536) (i : Int) {v : Value} {b : List (BitVec 8)} (hv : Holds w v b) (hb64 : b.length ≤ 1000000) :
    Calls Try.prog 25 #[.pointer (some ⟨g, 0, none⟩), .int .i64 i, v] w fun e w' => e = .returned (.int .i64 (appEI n D i b)) ∧ ∃ S', Sep B w0 w' (x :: refsOb S' n ((g, appDI n D i b) :: l) :: os) := by
  unfold appEI appDI
  rcases in_or n i with ⟨s, rfl, hs, hin, ht⟩ | ⟨ho, hno⟩
  · rw [if_pos hin, if_pos hin, ht]
    exact (rappend h.ref1 hn hm34 s hs v b hv hb64).mono fun e w' ⟨h1, h2⟩ => ⟨h1, h.refTo1 h2⟩
  · rw [if_neg hno, if_neg hno]
    obtain ⟨A, m, c, rfl, _⟩ := hv
    exact (rappend_range h.ref1 hn i ho A m c).mono fun e w' ⟨h1, h2⟩ => ⟨h1, S, by rw [← h2]; exact h⟩
theorem rsepI_sync (h : Sep B w0 w (x :: refsOb S n ((g, D) :: l) :: os)) (hn : 0 < n) (hm34 : n ≤ 65536) (i : Int) :
    Calls Try.prog 26 #[.pointer (some ⟨g, 0, none⟩), .int .i64 i] w fun e w' => e = .returned (.int .i64 (okEI n i)) ∧ ∃ S', Sep B w0 w' (x :: refsOb S' n ((g, syncDI n D i) :: l) :: os) := by
  unfold okEI syncDI
  rcases in_or n i with ⟨s, rfl, hs, hin, ht⟩ | ⟨ho, hno⟩
  · rw [if_pos hin, if_pos hin, ht]
    exact (rsync h.ref1 hn hm34 s hs).mono fun e w' ⟨h1, h2⟩ => ⟨h1, h.refTo1 h2⟩
  · rw [if_neg hno, if_neg hno]
    exact (rsync_range h.ref1 hn i ho).mono fun e w' ⟨h1, h2⟩ => ⟨h1, S, by rw [← h2]; exact h⟩
theorem rsepI_erase (h : Sep B w0 w (x :: refsOb S n ((g, D) :: l) :: os)) (hn : 0 < n) (hm34 : n ≤ 65536) (i : Int) :
    Calls Try.prog 27 #[.pointer (some ⟨g, 0, none⟩), .int .i64 i] w fun e w' => e = .returned (.int .i64 (okEI n i)) ∧ ∃ S', Sep B w0 w' (x :: refsOb S' n ((g, eraseDI n D i) :: l) :: os) := by
  unfold okEI eraseDI
  rcases in_or n i with ⟨s, rfl, hs, hin, ht⟩ | ⟨ho, hno⟩
  · rw [if_pos hin, if_pos hin, ht]
    exact (rerase h.ref1 hn hm34 s hs).mono fun e w' ⟨h1, h2⟩ => ⟨h1, h.refTo1 h2⟩
  · rw [if_neg hno, if_neg hno]
    exact (rerase_range h.ref1 hn i ho).mono fun e w' ⟨h1, h2⟩ => ⟨h1, S, by rw [← h2]; exact h⟩
theorem rsepI_crash (h : Sep B w0 w (x :: refsOb S n ((g, D) :: l) :: os)) (hn : 0 < n) (hm34 : n ≤ 65536) (A : Option Addr) (m c : Nat) (zs : List Int) (hm : m ≤ maxLen)
    (hr : ∀ W, Chg (fun k => k = g) w W → Reads W W.heap.size 1 A m (ints zs)) (hz : ∀ z ∈ zs, z ≤ 9223372036854775807) :
    Calls Try.prog 28 #[.pointer (some ⟨g, 0, none⟩), .slice A m c] w fun e w' => e = .returned (.int .i64 (crashEI zs)) ∧ ∃ S', Sep B w0 w' (x :: refsOb S' n ((g, crashDI zs D) :: l) :: os) := by
  have hlen : zs.length = m := by have := (hr w (Chg.refl _ _)).1; rw [ints_length] at this; omega
  unfold crashEI crashDI
  rcases keep_or zs with hk | ⟨hk, hb⟩
  · rw [if_pos hk, if_pos hk]
    exact (rcrash h.ref1 hn hm34 A m c zs hr (by rw [← hlen]; exact hk.1) (by rw [← hlen]; exact hk.2.1) (fun z hz' => ⟨hk.2.2 z hz', hz z hz'⟩)).mono fun e w' ⟨h1, h2⟩ => ⟨h1, h.refTo1 h2⟩
  · rw [if_neg hk, if_neg hk]
    exact (rcrash_bad h.ref1 hn A m c zs hm (hr w (Chg.refl _ _)) (by rw [← hlen]; exact hb)).mono fun e w' ⟨h1, h2⟩ => ⟨h1, S, by rw [← h2]; exact h⟩
theorem rsep_new (h : Sep B w0 w os) (A : Option Addr) (n c : Nat) (zs : List Int) (hr : Reads w w.heap.size 1 A n (ints zs)) (h1 : 1 ≤ n) (h2 : n ≤ 34) (hz : ∀ z ∈ zs, okSize z) :
    Calls Try.prog 24 #[.slice A n c] w fun e w' => ∃ d S, e = .returned (.tuple #[.pointer (some ⟨d, 0, none⟩), .int .i64 0]) ∧ Sep B w0 w' (refsOb S n [(d, newD zs)] :: os) := by
  refine (rnew_any A n c zs w hr h1 h2).mono ?_
  rintro e w' (⟨_, d, S, rfl, k1, k2, k3, k4⟩ | ⟨⟨z, hz1, hz2⟩, _⟩)
  · refine ⟨d, S, rfl, h.add (a := refsOb S n [(d, newD zs)]) k4 ⟨fun p hp => ?_, List.pairwise_singleton _ _, k1.cel⟩ (fun k hk => ?_)⟩
    · rcases List.mem_singleton.1 hp with rfl
      exact k1
    · rcases hk with hk | ⟨p, hp, rfl⟩
      · exact k3 k hk
      · rcases List.mem_singleton.1 hp with rfl
        exact k2
  · exact absurd (hz z hz1) hz2
/-- A copy joins the one that was copied; what was kept of an earlier one is let go. -/
theorem rsep_copy (h : Sep B w0 w (refsOb S n ((g, D) :: l) :: os)) (hn : 0 < n) (hm34 : n ≤ 65536) :
    Calls Try.prog 30 #[.pointer (some ⟨g, 0, none⟩)] w fun e w' => ∃ g' S', e = .returned (.pointer (some ⟨g', 0, none⟩)) ∧ Sep B w0 w' (refsOb S' n [(g', D), (g, D)] :: os) := by
  have h' : (∀ p, p ∈ (g, D) :: l → IsR w S p.1 n p.2) ∧ _ := h.get (.head _)
  have hg : IsR w S g n D := h'.1 _ (.head _)
  refine (rcopy hg hn hm34).mono ?_
  rintro e w' ⟨g', S', rfl, k1, k2, k3, k4, k5⟩
  have hglt := hg.blk_lt
  refine ⟨g', S', rfl, h.step (a' := refsOb S' n [(g', D), (g, D)]) (Chg.of_below k5) ⟨fun p hp => ?_, ?_, k1.cel⟩ (fun k hk => ?_)⟩
  · rcases List.mem_cons.1 hp with rfl | hp
    · exact k1
    · rcases List.mem_singleton.1 hp with rfl
      refine (hg.below k5).more k3 (fun e => ?_) k1.cel
      rcases k4 _ e with e | e
      · exact hg.nd e
      · exact absurd hglt (by show ¬ g < _; have : w.heap.size ≤ g := e; omega)
  · refine List.pairwise_cons.2 ⟨fun p hp => ?_, List.pairwise_singleton _ _⟩
    rcases List.mem_singleton.1 hp with rfl
    show g' ≠ g
    omega
  · rcases hk with hk | ⟨p, hp, rfl⟩
    · rcases k4 k hk with e | e
      · exact .inl (.inl e)
      · exact .inr e
    · rcases List.mem_cons.1 hp with rfl | hp
      · exact .inr k2
      · rcases List.mem_singleton.1 hp with rfl
        exact .inl (.inr ⟨_, .head _, rfl⟩)
end
end Go.Proofs.Ytelobbigpgfobaa

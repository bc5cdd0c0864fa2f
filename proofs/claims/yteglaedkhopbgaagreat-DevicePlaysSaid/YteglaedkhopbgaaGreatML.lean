/-
  The document's device: its parts as objects, and what looks; The document's device: counted, crash; The document's device: Append, Sync, Erase, Restart.
-/
import Derived.Test.YteglaedkhopbgaaGreatMI
import Derived.Test.YteglaedkhopbgaaGreatMK
namespace Go.Proofs.YteglaedkhopbgaaGreat
open Go.RowKit Go.Shelf
set_option linter.unusedVariables false
def rtOb (t : Nat) (kb : Option Nat) (P : Option PlanD) : Ob where
  P w := IsRT w t kb P
  F := rtfoot t kb
  keep hc hF h := h.chg hc hF
  lt h k hk := h.lt k hk
theorem cellOb_rt (t : Nat) (kb : Option Nat) (P : Option PlanD) : CellOb (rtOb t kb P) := fun w h k hk => by
  have h' : IsRT w t kb P := h
  have hk' : rtfoot t kb k := hk
  obtain ⟨at_, dn, A, n, c, keep, h1, h2, h3, _⟩ := h'
  rcases hk' with rfl | e
  · exact blk_cells h1
  · exact own_cells h2 k (h3.symm.trans e)
/-- Where its parts lie; what its disk's bytes may be shared with. -/
structure RLay where
  g : Nat
  t : Nat
  kb : Option Nat
  S : Nat → Prop
  l : List (Nat × (Nat → SlotD))
def rdCells (R : RLay) (X : DevD) : Array Value := #[.int .i64 (X.n : Int), .pointer (some ⟨R.g, 0, none⟩), .pointer (some ⟨R.t, 0, none⟩), .int .i64 (X.ops : Int), .bool X.down]
structure IsRD (w : World) (r : Nat) (R : RLay) (X : DevD) : Prop where
  blk : Blk w r 72 (rdCells R X)
  disk : IsR w R.S R.g (X.n + 2) X.D
  tm : IsRT w R.t R.kb X.T
  ok : X.Ok
def rv3 (r : Nat) (R : RLay) (X : DevD) (os : List Ob) : List Ob := blkOb r 72 (rdCells R X) :: refsOb R.S (X.n + 2) ((R.g, X.D) :: R.l) :: rtOb R.t R.kb X.T :: os
theorem rv3_cells {r : Nat} {R : RLay} {X : DevD} {os : List Ob} (h : AllCells os) : AllCells (rv3 r R X os) := AllCells.cons (cellOb_blk _ _ _) (AllCells.cons (cellOb_refs _ _ _) (AllCells.cons (cellOb_rt _ _ _) h))
section
variable {B : Nat} {w w' w0 : World} {os : List Ob} {r : Nat} {R : RLay} {X : DevD}
theorem Sep.rd (h : Sep B w0 w (rv3 r R X os)) (hX : X.Ok) : IsRD w r R X := by
  have h1 : Blk w r 72 (rdCells R X) := h.get (.head _)
  have h2 : IsR w R.S R.g (X.n + 2) X.D := h.ref1
  have h3 : IsRT w R.t R.kb X.T := h.get (.tail _ (.tail _ (.head _)))
  exact ⟨h1, h2, h3, hX⟩
theorem IsRD.below (h : IsRD w r R X) (hb : Below w.heap.size w w') : IsRD w' r R X := ⟨h.blk.below hb h.blk.lt, h.disk.below hb, h.tm.below hb, h.ok⟩
theorem IsRD.c0 (h : IsRD w r R X) : w.cell? ⟨r, 0, none⟩ = some (.int .i64 (X.n : Int)) := h.blk.cell 0
theorem IsRD.c1 (h : IsRD w r R X) : w.cell? ⟨r, 1, none⟩ = some (.pointer (some ⟨R.g, 0, none⟩)) := h.blk.cell 1
theorem IsRD.c2 (h : IsRD w r R X) : w.cell? ⟨r, 2, none⟩ = some (.pointer (some ⟨R.t, 0, none⟩)) := h.blk.cell 2
theorem IsRD.c3 (h : IsRD w r R X) : w.cell? ⟨r, 3, none⟩ = some (.int .i64 (X.ops : Int)) := h.blk.cell 3
theorem IsRD.c4 (h : IsRD w r R X) : w.cell? ⟨r, 4, none⟩ = some (.bool X.down) := h.blk.cell 4
theorem rlen_b {S : Nat → Prop} {d n : Nat} {D : Nat → SlotD} (h : IsR w S d n D) (hn : 0 < n) (i : Nat) (hi : i < n) :
    Calls Tryz.prog 74 #[.pointer (some ⟨d, 0, none⟩), .int .i64 (i : Int)] w fun e w' => e = .returned (.tuple #[.int .i64 ((D i).bytes.length : Int), .int .i64 0]) ∧ Below w.heap.size w w' :=
  (rlen h hn i hi).mono fun e w' ⟨h1, h2⟩ => ⟨h1, by rw [← h2]; exact Below.refl _ _⟩
theorem rdurable_b {S : Nat → Prop} {d n : Nat} {D : Nat → SlotD} (h : IsR w S d n D) (hn : 0 < n) (i : Nat) (hi : i < n) :
    Calls Tryz.prog 76 #[.pointer (some ⟨d, 0, none⟩), .int .i64 (i : Int)] w fun e w' => e = .returned (.tuple #[.int .i64 ((D i).dur : Int), .int .i64 0]) ∧ Below w.heap.size w w' :=
  (rdurable h hn i hi).mono fun e w' ⟨h1, h2⟩ => ⟨h1, by rw [← h2]; exact Below.refl _ _⟩
theorem rroom_b {S : Nat → Prop} {d n : Nat} {D : Nat → SlotD} (h : IsR w S d n D) (hn : 0 < n) (i : Nat) (hi : i < n) :
    Calls Tryz.prog 77 #[.pointer (some ⟨d, 0, none⟩), .int .i64 (i : Int)] w fun e w' => e = .returned (.tuple #[.int .i64 (((D i).size : Int) - ((D i).bytes.length : Int)), .int .i64 0]) ∧ Below w.heap.size w w' :=
  (rroom h hn i hi).mono fun e w' ⟨h1, q, h2⟩ => ⟨h1, by rw [h2]; exact bel_drewN' _ _⟩
theorem rread_b {S : Nat → Prop} {d n : Nat} {D : Nat → SlotD} (h : IsR w S d n D) (hn : 0 < n) (i : Nat) (hi : i < n) (off m : Int) :
    Calls Tryz.prog 72 #[.pointer (some ⟨d, 0, none⟩), .int .i64 (i : Int), .int .i64 off, .int .i64 m] w fun e w' => ∃ u q, e = .returned (.tuple #[u, .int .i64 q]) ∧ ((badRead (D i).bytes.length off m ∧ q = 3 ∧ u = .slice none 0 0) ∨ ∃ a b : Nat, off = a ∧ m = b ∧ a + b ≤ (D i).bytes.length ∧ q = 0 ∧ w'.ownsRow w.heap.size 5 1 u b (u8s (((D i).bytes.drop a).take b))) ∧ Below w.heap.size w w' := by
  by_cases hb : badRead (D i).bytes.length off m
  · exact (rread_bad h hn i hi off m hb).mono fun e w' ⟨h1, h2⟩ => ⟨_, _, h1, .inl ⟨hb, rfl, rfl⟩, by rw [← h2]; exact Below.refl _ _⟩
  · unfold badRead at hb
    obtain ⟨a, rfl⟩ : ∃ a : Nat, off = (a : Int) := ⟨off.toNat, by omega⟩
    obtain ⟨b, rfl⟩ : ∃ b : Nat, m = (b : Int) := ⟨m.toNat, by omega⟩
    refine (rread h hn i hi a b (by omega)).mono ?_
    rintro e w' ⟨v, h1, h2, h3⟩
    exact ⟨_, _, h1, .inr ⟨a, b, rfl, rfl, by omega, rfl, h2⟩, h3⟩
set_option maxRecDepth 100000 in
set_option maxHeartbeats 400000 in
theorem rd_valid (h : IsRD w r R X) :
    Calls Tryz.prog 65 #[.pointer (some ⟨r, 0, none⟩)] w fun e w' => e = .returned (.bool true) ∧ w = w' := by
  have q2 := h.c0
  have hn := h.ok.n2
  have hn32 := h.ok.n32
  obtain ⟨n, hnn⟩ : ∃ n, X.n = n := ⟨_, rfl⟩
  rw [hnn] at q2 hn hn32
  have hd : decide (0 < n) = true := decide_eq_true (by omega)
  clear h hnn
  go_enter Tryz.func65, Tryz.ntmps65
  go_wp2_with fail
  go_ret
  exact ⟨rfl, rfl⟩
set_option maxRecDepth 100000 in
set_option maxHeartbeats 1000000 in
theorem rd_check (h : IsRD w r R X) (i : Int) :
    Calls Tryz.prog 50 #[.pointer (some ⟨r, 0, none⟩), .int .i64 i] w fun e w' => e = .returned (.int .i64 (chkE X i)) ∧ w = w' := by
  have HV := Lib.hid (rd_valid h)
  have q2 := h.c0
  have q4 := h.c4
  have hn32 := h.ok.n32
  have hc := chk_cases X i
  obtain ⟨n, hnn⟩ : ∃ n, X.n = n := ⟨_, rfl⟩
  obtain ⟨re, hr⟩ : ∃ re, chkE X i = re := ⟨_, rfl⟩
  obtain ⟨dn, hdn⟩ : ∃ dn, X.down = dn := ⟨_, rfl⟩
  rw [hnn] at q2 hn32
  rw [hdn] at q4
  rw [hnn, hr, hdn] at hc
  rw [hr]
  clear h hnn hr hdn
  rcases hc with ⟨rfl, rfl⟩ | ⟨rfl, hi, _, rfl⟩ | ⟨rfl, rfl, _, s, rfl, hs, _⟩
  · go_enter Tryz.func50, Tryz.ntmps50
    go_wp2_with fail
    refine HV.out.mono ?_
    rintro e w' ⟨rfl, rfl⟩
    go_wp2_with fail
    go_ret
    exact ⟨rfl, rfl⟩
  · by_cases h0 : i < 0
    · clear hi
      go_enter Tryz.func50, Tryz.ntmps50
      go_wp2_with fail
      refine HV.out.mono ?_
      rintro e w' ⟨rfl, rfl⟩
      go_wp2_with fail
      go_ret
      exact ⟨rfl, rfl⟩
    · have h1 : (n : Int) + 2 ≤ i := by omega
      clear hi
      go_enter Tryz.func50, Tryz.ntmps50
      go_wp2_with fail
      refine HV.out.mono ?_
      rintro e w' ⟨rfl, rfl⟩
      go_wp2_with fail
      go_ret
      exact ⟨rfl, rfl⟩
  · have h1 : (s : Int) < (n : Int) + 2 := by omega
    go_enter Tryz.func50, Tryz.ntmps50
    go_wp2_with fail
    refine HV.out.mono ?_
    rintro e w' ⟨rfl, rfl⟩
    go_wp2_with fail
    go_ret
    exact ⟨rfl, rfl⟩
set_option maxRecDepth 100000 in
set_option maxHeartbeats 1000000 in
theorem rd_len (h : IsRD w r R X) (i : Int) :
    Calls Tryz.prog 23 #[.pointer (some ⟨r, 0, none⟩), .int .i64 i] w fun e w' => e = .returned (.tuple #[.int .i64 (lenV X i), .int .i64 (chkE X i)]) ∧ Below w.heap.size w w' := by
  have HV := Lib.hid (rd_check h i)
  have q0 := h.c1
  have hc := chk_cases X i
  have HD := Lib.hid h.disk
  unfold lenV
  obtain ⟨re, hr⟩ : ∃ re, chkE X i = re := ⟨_, rfl⟩
  rw [hr] at HV hc ⊢
  clear h hr
  rcases hc with ⟨_, rfl⟩ | ⟨_, _, _, rfl⟩ | ⟨_, rfl, _, s, rfl, hs, hs2⟩
  · go_enter Tryz.func23, Tryz.ntmps23
    go_wp2_with fail
    refine HV.out.mono ?_
    rintro e w' ⟨rfl, rfl⟩
    go_wp2_with fail
    go_ret2
    exact ⟨rfl, Below.refl _ _⟩
  · go_enter Tryz.func23, Tryz.ntmps23
    go_wp2_with fail
    refine HV.out.mono ?_
    rintro e w' ⟨rfl, rfl⟩
    go_wp2_with fail
    go_ret2
    exact ⟨rfl, Below.refl _ _⟩
  · have HL := Lib.hid (rlen_b HD.out (by omega) s hs)
    rw [if_pos rfl, hs2]
    obtain ⟨y, hy⟩ : ∃ y : Int, ((X.D s).bytes.length : Int) = y := ⟨_, rfl⟩
    rw [hy] at HL ⊢
    clear hy hs2
    go_enter Tryz.func23, Tryz.ntmps23
    go_wp2_with fail
    refine HV.out.mono ?_
    rintro e w' ⟨rfl, rfl⟩
    go_wp2_with fail
    refine HL.out.mono ?_
    rintro e w' ⟨rfl, hb⟩
    have HB := Lib.hid hb
    clear hb
    go_wp2_with fail
    go_ret2
    exact ⟨rfl, HB.out⟩
set_option maxRecDepth 100000 in
set_option maxHeartbeats 1000000 in
theorem rd_room (h : IsRD w r R X) (i : Int) :
    Calls Tryz.prog 27 #[.pointer (some ⟨r, 0, none⟩), .int .i64 i] w fun e w' => e = .returned (.tuple #[.int .i64 (roomV X i), .int .i64 (chkE X i)]) ∧ Below w.heap.size w w' := by
  have HV := Lib.hid (rd_check h i)
  have q0 := h.c1
  have hc := chk_cases X i
  have HD := Lib.hid h.disk
  unfold roomV
  obtain ⟨re, hr⟩ : ∃ re, chkE X i = re := ⟨_, rfl⟩
  rw [hr] at HV hc ⊢
  clear h hr
  rcases hc with ⟨_, rfl⟩ | ⟨_, _, _, rfl⟩ | ⟨_, rfl, _, s, rfl, hs, hs2⟩
  · go_enter Tryz.func27, Tryz.ntmps27
    go_wp2_with fail
    refine HV.out.mono ?_
    rintro e w' ⟨rfl, rfl⟩
    go_wp2_with fail
    go_ret2
    exact ⟨rfl, Below.refl _ _⟩
  · go_enter Tryz.func27, Tryz.ntmps27
    go_wp2_with fail
    refine HV.out.mono ?_
    rintro e w' ⟨rfl, rfl⟩
    go_wp2_with fail
    go_ret2
    exact ⟨rfl, Below.refl _ _⟩
  · have HL := Lib.hid (rroom_b HD.out (by omega) s hs)
    rw [if_pos rfl, hs2]
    obtain ⟨y, hy⟩ : ∃ y : Int, ((X.D s).size : Int) - ((X.D s).bytes.length : Int) = y := ⟨_, rfl⟩
    rw [hy] at HL ⊢
    clear hy hs2
    go_enter Tryz.func27, Tryz.ntmps27
    go_wp2_with fail
    refine HV.out.mono ?_
    rintro e w' ⟨rfl, rfl⟩
    go_wp2_with fail
    refine HL.out.mono ?_
    rintro e w' ⟨rfl, hb⟩
    have HB := Lib.hid hb
    clear hb
    go_wp2_with fail
    go_ret2
    exact ⟨rfl, HB.out⟩
set_option maxRecDepth 100000 in
set_option maxHeartbeats 1000000 in
theorem rd_unsynced (h : IsRD w r R X) (i : Int) :
    Calls Tryz.prog 25 #[.pointer (some ⟨r, 0, none⟩), .int .i64 i] w fun e w' => e = .returned (.tuple #[.int .i64 (unsV X i), .int .i64 (chkE X i)]) ∧ Below w.heap.size w w' := by
  have HV := Lib.hid (rd_len h i)
  have hc := chk_cases X i
  have H := Lib.hid h
  unfold lenV at HV
  unfold unsV
  obtain ⟨re, hr⟩ : ∃ re, chkE X i = re := ⟨_, rfl⟩
  rw [hr] at HV hc ⊢
  clear h hr
  rcases hc with ⟨_, rfl⟩ | ⟨_, _, _, rfl⟩ | ⟨_, rfl, _, s, rfl, hs, hs2⟩
  · rw [if_neg (by omega)] at HV
    go_enter Tryz.func25, Tryz.ntmps25
    go_wp2_with fail
    refine HV.out.mono ?_
    rintro e w' ⟨rfl, hb⟩
    have HB := Lib.hid hb
    clear hb
    go_wp2_with fail
    go_ret2
    exact ⟨rfl, HB.out⟩
  · rw [if_neg (by omega)] at HV
    go_enter Tryz.func25, Tryz.ntmps25
    go_wp2_with fail
    refine HV.out.mono ?_
    rintro e w' ⟨rfl, hb⟩
    have HB := Lib.hid hb
    clear hb
    go_wp2_with fail
    go_ret2
    exact ⟨rfl, HB.out⟩
  · rw [if_pos rfl, hs2] at HV
    rw [if_pos rfl, hs2]
    have HN := Lib.hid (H.out.disk.nums s hs)
    obtain ⟨y, hy⟩ : ∃ y : Nat, (X.D s).bytes.length = y := ⟨_, rfl⟩
    obtain ⟨z, hz⟩ : ∃ z : Nat, (X.D s).dur = z := ⟨_, rfl⟩
    rw [hy] at HV HN ⊢
    rw [hz] at HN ⊢
    have hyz := HN.out
    have HZ := Lib.hid hz
    clear hy hs2 hz HN
    go_enter Tryz.func25, Tryz.ntmps25
    go_wp2_with fail
    refine HV.out.mono ?_
    rintro e w1 ⟨rfl, hb⟩
    have hd := H.out.below hb
    have q0 := hd.c1
    have HDU := Lib.hid (rdurable_b hd.disk (by omega) s hs)
    rw [HZ.out] at HDU
    have HB := Lib.hid hb
    clear hb hd
    go_wp2_with fail
    refine HDU.out.mono ?_
    rintro e w2 ⟨rfl, hb⟩
    have HB2 := Lib.hid (HB.out.trans (hb.mono HB.out.size))
    clear hb q0
    go_wp2_with fail
    go_ret2
    exact ⟨rfl, HB2.out⟩
set_option maxRecDepth 100000 in
set_option maxHeartbeats 1000000 in
theorem rd_read (h : IsRD w r R X) (i off m : Int) :
    Calls Tryz.prog 21 #[.pointer (some ⟨r, 0, none⟩), .int .i64 i, .int .i64 off, .int .i64 m] w fun e w' => ∃ u re, e = .returned (.tuple #[u, .int .i64 re]) ∧ VReadQ w X i off m u re w' ∧ Below w.heap.size w w' := by
  have HV := Lib.hid (rd_check h i)
  have q0 := h.c1
  have hc := chk_cases X i
  have HD := Lib.hid h.disk
  unfold VReadQ
  obtain ⟨re, hr⟩ : ∃ re, chkE X i = re := ⟨_, rfl⟩
  rw [hr] at HV hc ⊢
  clear h hr
  rcases hc with ⟨_, rfl⟩ | ⟨_, _, _, rfl⟩ | ⟨_, rfl, _, s, rfl, hs, hs2⟩
  · go_enter Tryz.func21, Tryz.ntmps21
    go_wp2_with fail
    refine HV.out.mono ?_
    rintro e w' ⟨rfl, rfl⟩
    go_wp2_with fail
    go_ret2
    exact ⟨_, _, rfl, .inl ⟨by omega, rfl, rfl⟩, Below.refl _ _⟩
  · go_enter Tryz.func21, Tryz.ntmps21
    go_wp2_with fail
    refine HV.out.mono ?_
    rintro e w' ⟨rfl, rfl⟩
    go_wp2_with fail
    go_ret2
    exact ⟨_, _, rfl, .inl ⟨by omega, rfl, rfl⟩, Below.refl _ _⟩
  · have HL := Lib.hid (rread_b HD.out (by omega) s hs off m)
    go_enter Tryz.func21, Tryz.ntmps21
    go_wp2_with fail
    refine HV.out.mono ?_
    rintro e w' ⟨rfl, rfl⟩
    go_wp2_with fail
    refine HL.out.mono ?_
    rintro e w' ⟨u, re, rfl, hq, hb⟩
    have HB := Lib.hid hb
    have HQ := Lib.hid hq
    clear hb hq
    go_wp2_with fail
    go_ret2
    refine ⟨_, _, rfl, .inr ⟨by trivial, s, rfl, hs, ?_⟩, HB.out⟩
    exact HQ.out
set_option maxRecDepth 100000 in
set_option maxHeartbeats 400000 in
theorem rd_down (h : IsRD w r R X) :
    Calls Tryz.prog 30 #[.pointer (some ⟨r, 0, none⟩)] w fun e w' => e = .returned (.bool X.down) ∧ w = w' := by
  have HV := Lib.hid (rd_valid h)
  have q := h.c4
  clear h
  go_enter Tryz.func30, Tryz.ntmps30
  go_wp2_with fail
  refine HV.out.mono ?_
  rintro e w' ⟨rfl, rfl⟩
  go_wp2_with fail
  go_ret
  exact ⟨rfl, rfl⟩
set_option maxRecDepth 100000 in
set_option maxHeartbeats 400000 in
theorem rd_ops (h : IsRD w r R X) :
    Calls Tryz.prog 32 #[.pointer (some ⟨r, 0, none⟩)] w fun e w' => e = .returned (.int .i64 (X.ops : Int)) ∧ w = w' := by
  have HV := Lib.hid (rd_valid h)
  have q := h.c3
  clear h
  go_enter Tryz.func32, Tryz.ntmps32
  go_wp2_with fail
  refine HV.out.mono ?_
  rintro e w' ⟨rfl, rfl⟩
  go_wp2_with fail
  go_ret
  exact ⟨rfl, rfl⟩
set_option maxRecDepth 100000 in
set_option maxHeartbeats 400000 in
theorem rd_slots (h : IsRD w r R X) :
    Calls Tryz.prog 34 #[.pointer (some ⟨r, 0, none⟩)] w fun e w' => e = .returned (.int .i64 (X.n : Int)) ∧ w = w' := by
  have HV := Lib.hid (rd_valid h)
  have q := h.c0
  clear h
  go_enter Tryz.func34, Tryz.ntmps34
  go_wp2_with fail
  refine HV.out.mono ?_
  rintro e w' ⟨rfl, rfl⟩
  go_wp2_with fail
  go_ret
  exact ⟨rfl, rfl⟩
set_option maxRecDepth 100000 in
set_option maxHeartbeats 400000 in
theorem rd_disk (h : IsRD w r R X) :
    Calls Tryz.prog 37 #[.pointer (some ⟨r, 0, none⟩)] w fun e w' => ∃ d' S', e = .returned (.pointer (some ⟨d', 0, none⟩)) ∧ IsR w' S' d' (X.n + 2) X.D ∧ Below w.heap.size w w' := by
  have HV := Lib.hid (rd_valid h)
  have q0 := h.c1
  have hn := h.ok.n32
  have HC := Lib.hid (rcopy h.disk (by omega) (by omega))
  clear h
  go_enter Tryz.func37, Tryz.ntmps37
  go_wp2_with fail
  refine HV.out.mono ?_
  rintro e w' ⟨rfl, rfl⟩
  go_wp2_with fail
  refine HC.out.mono ?_
  rintro e w' ⟨d', S', rfl, h1, _, _, _, h3⟩
  have H1 := Lib.hid h1
  have H3 := Lib.hid h3
  clear h1 h3
  go_wp2_with fail
  go_ret
  exact ⟨d', S', rfl, H1.out, H3.out⟩
end
end Go.Proofs.YteglaedkhopbgaaGreat
namespace Go.Proofs.YteglaedkhopbgaaGreat
open Go.RowKit Go.Shelf
set_option linter.unusedVariables false
section
variable {B : Nat} {w w' w0 : World} {os : List Ob} {r : Nat} {R : RLay} {X : DevD}
theorem Sep.rtick (h : Sep B w0 w (rv3 r R X os)) :
    Calls Tryz.prog 92 #[.pointer (some ⟨R.t, 0, none⟩)] w fun e w' => e = .returned (.bool (tickB X.T)) ∧ Sep B w0 w' (rv3 r R { X with T := tickP X.T } os) := by
  have ht : IsRT w R.t R.kb X.T := h.get (.tail _ (.tail _ (.head _)))
  refine (rt_tick ht).mono ?_
  rintro e w' ⟨h1, h2, h3⟩
  exact ⟨h1, h.step2 (a := rtOb R.t R.kb X.T) (a' := rtOb R.t R.kb (tickP X.T)) (h3.mono (fun k _ hk => .inl hk)) h2 (fun k hk => .inl hk)⟩
theorem Sep.setPlan {g : Nat} {cs : Array Value} {a b c : Value} {x y z : Value} (h : Sep B w0 w (blkOb g 35 #[x, y, z] :: os)) : Sep B w0 (((w.setCell ⟨g, 0, none⟩ a).setCell ⟨g, 1, none⟩ b).setCell ⟨g, 2, none⟩ c) (blkOb g 35 #[a, b, c] :: os) :=
  ((h.setBlk 0 a).setBlk 1 b).setBlk 2 c
/-- What counted gives. -/
def RCountQ (B : Nat) (w0 : World) (os : List Ob) (r : Nat) (R : RLay) (X : DevD) (e : Ending) (w' : World) : Prop :=
  ∃ at_ dn A m c keep, e = .returned (.tuple #[planV at_ dn A m c, .bool (tickB X.T)]) ∧ (tickB X.T = true → dn = dnOf X.T ∧ keep = keepOf X.T ∧ okPlan at_ keep) ∧ keep.length = m ∧ Sep B w0 w' (rowOb 3 1 (.slice A m c) m (ints keep) :: rv3 r R (midX X) os)
set_option maxRecDepth 100000 in
set_option maxHeartbeats 4000000 in
theorem rd_counted (h : Sep B w0 w (rv3 r R X os)) (hX : X.Ok) (hops : X.ops < 4611686018427387904) :
    Calls Tryz.prog 52 #[.pointer (some ⟨r, 0, none⟩)] w (RCountQ B w0 os r R X) := by
  obtain ⟨W1, hW1⟩ : ∃ W1, W1 = w.alloc (.cells #[.int .i64 0, .bool false, .slice none 0 0] 35) := ⟨_, rfl⟩
  obtain ⟨p2, hp2⟩ : ∃ p2, p2 = w.heap.size := ⟨_, rfl⟩
  have hs1 : Sep B w0 W1 (blkOb r 72 (rdCells R X) :: blkOb p2 35 #[.int .i64 0, .bool false, .slice none 0 0] :: refsOb R.S (X.n + 2) ((R.g, X.D) :: R.l) :: rtOb R.t R.kb X.T :: os) := by
    rw [hW1]
    exact (h.newBlk p2 _ _ hp2).perm (.swap _ _ _)
  obtain ⟨n, hn⟩ : ∃ n, X.ops = n := ⟨_, rfl⟩
  have hv1 : Blk W1 r 72 (rdCells R X) := hs1.get (.head _)
  have q3 : W1.cell? ⟨r, 3, none⟩ = some (.int .i64 (n : Int)) := by rw [← hn]; exact hv1.cell 3
  have f3 := hv1.frozen 3
  obtain ⟨W2, hW2⟩ : ∃ W2, W2 = W1.setCell ⟨r, 3, none⟩ (.int .i64 ((n : Int) + 1)) := ⟨_, rfl⟩
  have hs2 : Sep B w0 W2 (blkOb p2 35 #[.int .i64 0, .bool false, .slice none 0 0] :: rv3 r R { X with ops := X.ops + 1 } os) := by
    rw [hW2]
    have := hs1.setBlk 3 (.int .i64 ((n : Int) + 1))
    rw [← hn] at this ⊢
    exact this.perm (.swap _ _ _)
  have hv2 : Blk W2 r 72 (rdCells R { X with ops := X.ops + 1 }) := hs2.get (.tail _ (.head _))
  have q2 : W2.cell? ⟨r, 2, none⟩ = some (.pointer (some ⟨R.t, 0, none⟩)) := hv2.cell 2
  have ht : IsRT W2 R.t R.kb X.T := hs2.get (.tail _ (.tail _ (.tail _ (.head _))))
  have HPL := Lib.hid (rt_plan ht)
  have HS2 := Lib.hid hs2
  have HX := Lib.hid hX
  have HW1 := Lib.hid hW1
  have HW2 := Lib.hid hW2
  have HP2 := Lib.hid hp2
  rw [hn] at hops
  have HPLAN : Hid (∀ e w', RPlanQ W2 X.T e w' → ∃ at_ dn A m c keep bb, e = .returned (.tuple #[planV at_ dn A m c, .bool bb]) ∧ Hid (tickB X.T = true → dn = dnOf X.T ∧ keep = keepOf X.T ∧ okPlan at_ keep) ∧ Hid (keep.length = m) ∧ Hid (Sep B w0 w' (rowOb 3 1 (.slice A m c) m (ints keep) :: blkOb p2 35 #[.int .i64 0, .bool false, .slice none 0 0] :: rv3 r R { X with ops := X.ops + 1 } os))) := by
    rintro e w' (⟨hT, rfl, hb⟩ | ⟨p, A, c, hT, rfl, ho, hb⟩)
    · refine ⟨0, false, none, 0, 0, [], false, rfl, (show tickB X.T = true → _ from fun hh => by rw [hT] at hh; cases hh), rfl, HS2.out.add (a := rowOb 3 1 (.slice none 0 0) 0 []) hb (World.ownsRow_nil _ _ _ _) (fun k hk => by cases hk)⟩
    · refine ⟨p.at_, p.dn, A, p.keep.length, c, p.keep, _, rfl, fun _ => ?_, rfl, HS2.out.add (a := rowOb 3 1 (.slice A p.keep.length c) p.keep.length (ints p.keep)) hb (own_base ho (fun _ _ => Nat.zero_le _)) (fun k hk => (ho.lt k hk).1)⟩
      rw [hT]
      exact ⟨rfl, rfl, (HX.out.tm p hT).1⟩
  rw [hW2, hW1] at q2
  rw [hW1] at q3 f3
  rw [hp2] at HS2
  clear h hX hs1 hn hv1 hs2 hv2 ht hW1 hW2 hp2
  go_enter Tryz.func52, Tryz.ntmps52
  go_wp2_with fail
  rw [← HW1.out, ← HW2.out, ← HP2.out]
  refine HPL.out.mono ?_
  intro e w3 hpl
  obtain ⟨at_, dn, A, m, c, keep, bb, rfl, HT, HM, HS3⟩ := HPLAN.out e w3 hpl
  clear hpl q2 q3 f3 HPL HPLAN
  obtain ⟨p4, hp4⟩ : ∃ p4, p4 = w3.heap.size := ⟨_, rfl⟩
  obtain ⟨W4, hW4⟩ : ∃ W4, W4 = w3.alloc (.cells #[.int .i64 at_, .bool dn, .slice A m c] 35) := ⟨_, rfl⟩
  have hs4 : Sep B w0 W4 (blkOb p4 35 #[.int .i64 at_, .bool dn, .slice A m c] :: rowOb 3 1 (.slice A m c) m (ints keep) :: blkOb p2 35 #[.int .i64 0, .bool false, .slice none 0 0] :: rv3 r R { X with ops := X.ops + 1 } os) := by
    rw [hW4]
    exact HS3.out.newBlk p4 _ _ hp4
  have hbk : Blk (w3.alloc (.cells #[.int .i64 0, .bool false, .slice none 0 0] 35)) w3.heap.size 35 #[.int .i64 0, .bool false, .slice none 0 0] := Blk.new _ _ _
  have e0 : (w3.alloc (.cells #[.int .i64 0, .bool false, .slice none 0 0] 35)).cell? ⟨w3.heap.size, 0, none⟩ = some (.int .i64 0) := hbk.cell 0
  have e1 : (w3.alloc (.cells #[.int .i64 0, .bool false, .slice none 0 0] 35)).cell? ⟨w3.heap.size, 1, none⟩ = some (.bool false) := hbk.cell 1
  have e2 : (w3.alloc (.cells #[.int .i64 0, .bool false, .slice none 0 0] 35)).cell? ⟨w3.heap.size, 2, none⟩ = some (.slice none 0 0) := hbk.cell 2
  have k4 : Blk W4 p4 35 #[.int .i64 at_, .bool dn, .slice A m c] := hs4.get (.head _)
  have v4 : Blk W4 r 72 (rdCells R { X with ops := X.ops + 1 }) := hs4.get (.tail _ (.tail _ (.tail _ (.head _))))
  have g0 : W4.cell? ⟨p4, 0, none⟩ = some (.int .i64 at_) := k4.cell 0
  have g1 : W4.cell? ⟨p4, 1, none⟩ = some (.bool dn) := k4.cell 1
  have g2 : W4.cell? ⟨p4, 2, none⟩ = some (.slice A m c) := k4.cell 2
  have g3 : W4.cell? ⟨r, 2, none⟩ = some (.pointer (some ⟨R.t, 0, none⟩)) := v4.cell 2
  have HS4 := Lib.hid hs4
  have HW4 := Lib.hid hW4
  have HP4 := Lib.hid hp4
  clear hbk k4 v4 hs4 hW4 hp4
  unfold planV
  go_wp2_with fail
  rw [← HP4.out, ← HW4.out]
  clear e0 e1 e2
  have HTK : Hid (Calls Tryz.prog 92 #[.pointer (some ⟨R.t, 0, none⟩)] W4.drew fun e w' => e = .returned (.bool (tickB X.T)) ∧ Hid (Sep B w0 w' (rv3 r R (midX X) (blkOb p4 35 #[.int .i64 at_, .bool dn, .slice A m c] :: rowOb 3 1 (.slice A m c) m (ints keep) :: blkOb p2 35 #[.int .i64 0, .bool false, .slice none 0 0] :: os)))) := by
    have h5 : Sep B w0 W4.drew (rv3 r R { X with ops := X.ops + 1 } (blkOb p4 35 #[.int .i64 at_, .bool dn, .slice A m c] :: rowOb 3 1 (.slice A m c) m (ints keep) :: blkOb p2 35 #[.int .i64 0, .bool false, .slice none 0 0] :: os)) := HS4.out.drew.perm ((List.perm_append_comm (l₁ := [_, _, _]) (l₂ := [_, _, _])).append_right os)
    exact (Sep.rtick h5).mono fun e w' ⟨h1, h2⟩ => ⟨h1, h2⟩
  have hne1 : p4 ≠ p2 := by
    have h6 : Blk w3 p2 35 #[.int .i64 0, .bool false, .slice none 0 0] := HS3.out.get (.tail _ (.head _))
    have := h6.lt
    have := HP4.out
    omega
  have hne2 : p2 ≠ p4 := fun e => hne1 e.symm
  have hne3 : p2 ≠ r := (List.pairwise_cons.1 HS2.out.apart).1 (blkOb r 72 (rdCells R { X with ops := X.ops + 1 })) (.head _) p2 HP2.out
  have hne4 : r ≠ p2 := fun e => hne3 e.symm
  go_region_held3 (fun Y => Y.cell? ⟨p4, 0, none⟩ = some (.int .i64 at_) ∧ Y.cell? ⟨p4, 1, none⟩ = some (.bool dn) ∧ Y.cell? ⟨p4, 2, none⟩ = some (.slice A m c) ∧ Y.cell? ⟨r, 2, none⟩ = some (.pointer (some ⟨R.t, 0, none⟩))) (first | (refine ⟨?_, ?_, ?_, ?_⟩ <;> assumption) | go_keep)
    (first
      | (go_at_call 92; refine HTK.out.mono ?_; rintro e w6 ⟨rfl, hs6⟩
         have h6p : Blk w6 p4 35 #[.int .i64 at_, .bool dn, .slice A m c] := hs6.out.get (.tail _ (.tail _ (.tail _ (.head _))))
         have h6q : Blk w6 p2 35 #[.int .i64 0, .bool false, .slice none 0 0] := hs6.out.get (.tail _ (.tail _ (.tail _ (.tail _ (.tail _ (.head _))))))
         have h6r : Blk w6 r 72 (rdCells R (midX X)) := hs6.out.get (.head _)
         have k0 : w6.cell? ⟨p4, 0, none⟩ = some (.int .i64 at_) := h6p.cell 0
         have k1 : w6.cell? ⟨p4, 1, none⟩ = some (.bool dn) := h6p.cell 1
         have k2 : w6.cell? ⟨p4, 2, none⟩ = some (.slice A m c) := h6p.cell 2
         have k3 : w6.cell? ⟨r, 2, none⟩ = some (.pointer (some ⟨R.t, 0, none⟩)) := h6r.cell 2
         have y0 : w6.cell? ⟨p2, 0, none⟩ = some (.int .i64 0) := h6q.cell 0
         have y1 : w6.cell? ⟨p2, 1, none⟩ = some (.bool false) := h6q.cell 1
         have y2 : w6.cell? ⟨p2, 2, none⟩ = some (.slice none 0 0) := h6q.cell 2
         have z0 := h6q.frozen 0
         have z1 := h6q.frozen 1
         have z2 := h6q.frozen 2
         clear h6p h6q h6r))
  obtain ⟨W7, hW7⟩ : ∃ W7, W7 = ((w6.setCell ⟨p2, 0, none⟩ (.int .i64 at_)).setCell ⟨p2, 1, none⟩ (.bool dn)).setCell ⟨p2, 2, none⟩ (.slice A m c) := ⟨_, rfl⟩
  have hs7 : Sep B w0 W7 (blkOb p2 35 #[.int .i64 at_, .bool dn, .slice A m c] :: rowOb 3 1 (.slice A m c) m (ints keep) :: rv3 r R (midX X) os) := by
    rw [hW7]
    have h8 : Sep B w0 w6 (blkOb p4 35 #[.int .i64 at_, .bool dn, .slice A m c] :: rowOb 3 1 (.slice A m c) m (ints keep) :: blkOb p2 35 #[.int .i64 0, .bool false, .slice none 0 0] :: rv3 r R (midX X) os) := hs6.out.perm ((List.perm_append_comm (l₁ := [_, _, _]) (l₂ := [_, _, _])).append_right os)
    exact ((h8.sub (.cons _ (List.Sublist.refl _))).perm (.swap _ _ _)).setPlan (cs := #[])
  have HS7 := Lib.hid hs7
  have HW7 := Lib.hid hW7
  clear hs7 hW7 HTK
  go_wp2_with fail
  rw [← HW7.out]
  have k7 : Blk W7 p2 35 #[.int .i64 at_, .bool dn, .slice A m c] := HS7.out.get (.head _)
  have e0 : W7.cell? ⟨p2, 0, none⟩ = some (.int .i64 at_) := k7.cell 0
  have e1 : W7.cell? ⟨p2, 1, none⟩ = some (.bool dn) := k7.cell 1
  have e2 : W7.cell? ⟨p2, 2, none⟩ = some (.slice A m c) := k7.cell 2
  refine bodyPost_ret (v := .tuple #[.agg #[.int .i64 at_, .bool dn, .slice A m c], .bool (tickB X.T)]) (by simp [results, Tryz.f52, go_sem, e0, e1, e2]) rfl ?_
  exact ⟨at_, dn, A, m, c, keep, rfl, HT.out, HM.out, HS7.out.sub (.cons _ (List.Sublist.refl _))⟩
set_option maxRecDepth 100000 in
set_option maxHeartbeats 2000000 in
theorem rd_crash (h : Sep B w0 w (rv3 r R X os)) (hn : X.n ≤ 32) (at_ : Int) (dn : Bool) (A : Option Addr) (m c : Nat) (zs : List Int) (hr : ∀ W, Kept B w0 os W → Reads W W.heap.size 1 A m (ints zs)) (h1 : 1 ≤ m) (h2 : m ≤ 34) (hk : ∀ z ∈ zs, 0 ≤ z ∧ z ≤ 8192) :
    Calls Tryz.prog 53 #[.pointer (some ⟨r, 0, none⟩), planV at_ dn A m c] w fun e w' => e = .returned (.int .i64 13) ∧ ∃ R', Sep B w0 w' (rv3 r R' { X with D := crashD zs X.D, down := true } os) := by
  obtain ⟨W1, hW1⟩ : ∃ W1, W1 = w.alloc (.cells #[.int .i64 at_, .bool dn, .slice A m c] 35) := ⟨_, rfl⟩
  have hs1 : Sep B w0 W1 (blkOb w.heap.size 35 #[.int .i64 at_, .bool dn, .slice A m c] :: rv3 r R X os) := by rw [hW1]; exact h.newBlk _ _ _ rfl
  have hb1 := hs1.blk0
  have hv : Blk W1 r 72 (rdCells R X) := hs1.get (.tail _ (.head _))
  have q0 : W1.cell? ⟨r, 1, none⟩ = some (.pointer (some ⟨R.g, 0, none⟩)) := hv.cell 1
  have q2 : W1.cell? ⟨w.heap.size, 2, none⟩ = some (.slice A m c) := hb1.cell 2
  have HS1 := Lib.hid hs1
  have HR := Lib.hid hr
  have HK := Lib.hid hk
  have HW1 := Lib.hid hW1
  clear hs1 hb1 hv hr hk h hW1
  unfold planV
  go_enter Tryz.func53, Tryz.ntmps53
  go_wp2_with fail
  rw [← HW1.out]
  go_still_tail 6, (by kernel_rfl)
  change wpList _ _ _ _ _ W1.drew
  obtain ⟨W2, hW2⟩ : ∃ W2, W2 = W1.drew := ⟨_, rfl⟩
  have hs2 : Sep B w0 W2 (rv3 r R X os) := by
    rw [hW2]
    exact (HS1.out.drew).sub (.cons _ (List.Sublist.refl _))
  have hg := hs2.ref1nd
  have HCR : Hid (Calls Tryz.prog 93 #[.pointer (some ⟨R.g, 0, none⟩), .slice A m c] W2 fun e w' => e = .returned (.int .i64 (crashEI zs)) ∧ ∃ S', Sep B w0 w' (blkOb r 72 (rdCells R X) :: refsOb S' (X.n + 2) ((R.g, crashDI zs X.D) :: R.l) :: rtOb R.t R.kb X.T :: os)) := by
    refine rsepI_crash hs2 (by omega) (by omega) A m c zs (by unfold maxLen; omega) (fun W hW => HR.out W ⟨hs2.bel.trans (hW.below hs2.big (fun k hk => by have e : k = R.g := hk; omega)), fun o ho => ?_⟩) (fun z hz => by have := HK.out z hz; omega)
    refine o.keep hW (fun k hk e => ?_) (hs2.get (.tail _ (.tail _ (.tail _ ho))))
    have e : k = R.g := e
    subst e
    have h5 := (List.pairwise_cons.1 hs2.apart).2
    exact (List.pairwise_cons.1 h5).1 o (.tail _ ho) R.g (.inr ⟨_, .head _, rfl⟩) hk
  have hlen : zs.length = m := by have := (HR.out W2 ⟨hs2.bel, fun o ho => hs2.get (.tail _ (.tail _ (.tail _ ho)))⟩).1; rw [ints_length] at this; omega
  have HOK : Hid (okKeep zs) := ⟨by omega, by omega, fun z hz => (HK.out z hz).1⟩
  rw [← hW2]
  clear hW2 q0 q2 hs2 hg hlen
  go_wp2_with fail
  refine HCR.out.mono ?_
  rintro e w3 ⟨rfl, S', hs⟩
  have hv : Blk w3 r 72 (rdCells R X) := hs.get (.head _)
  have f4 := hv.frozen 4
  have q4 : w3.cell? ⟨r, 4, none⟩ = some (.bool X.down) := hv.cell 4
  have HS3 := Lib.hid hs
  clear hs hv HCR
  go_wp2_with fail
  go_ret
  refine ⟨rfl, { R with S := S' }, ?_⟩
  have := HS3.out.setBlk 4 (.bool true)
  rw [show crashDI zs X.D = crashD zs X.D from by unfold crashDI; rw [if_pos HOK.out]] at this
  exact this
end
end Go.Proofs.YteglaedkhopbgaaGreat
namespace Go.Proofs.YteglaedkhopbgaaGreat
open Go.RowKit Go.Shelf
set_option linter.unusedVariables false
section
variable {B : Nat} {w w' w0 : World} {os : List Ob} {r : Nat} {R : RLay} {X : DevD}
theorem rd_crash2 {pb : Nat} {at_ : Int} {dn : Bool} {A : Option Addr} {m c : Nat} {keep : List Int} (h : Sep B w0 w (blkOb pb 35 #[.int .i64 at_, .bool dn, .slice A m c] :: rowOb 3 1 (.slice A m c) m (ints keep) :: rv3 r R X os)) (hn : X.n ≤ 32) (hlen : keep.length = m) (hok : okPlan at_ keep) :
    Calls Tryz.prog 53 #[.pointer (some ⟨r, 0, none⟩), .agg #[.int .i64 at_, .bool dn, .slice A m c]] w fun e w' => e = .returned (.int .i64 13) ∧ ∃ R', Sep B w0 w' (rv3 r R' { X with D := crashD keep X.D, down := true } os) := by
  have h2 : Sep B w0 w (rv3 r R X (blkOb pb 35 #[.int .i64 at_, .bool dn, .slice A m c] :: rowOb 3 1 (.slice A m c) m (ints keep) :: os)) := h.perm ((List.perm_append_comm (l₁ := [_, _]) (l₂ := [_, _, _])).append_right os)
  refine (rd_crash h2 hn at_ dn A m c keep (fun W hW => Reads.of_own (hW.2 (rowOb 3 1 (.slice A m c) m (ints keep)) (.tail _ (.head _)))) (by have := hok.2.1.1; omega) (by have := hok.2.1.2; omega) hok.2.2).mono ?_
  rintro e w' ⟨h3, R', h4⟩
  exact ⟨h3, R', h4.sub (.cons_cons _ (.cons_cons _ (.cons_cons _ (.cons _ (.cons _ (List.Sublist.refl _))))))⟩
theorem rd_box {e : Ending} (h : RCountQ B w0 os r R X e w) : ∃ at_ dn A m c keep, e = .returned (.tuple #[.agg #[.int .i64 at_, .bool dn, .slice A m c], .bool (tickB X.T)]) ∧ Hid (tickB X.T = true → dn = dnOf X.T ∧ keep = keepOf X.T ∧ okPlan at_ keep) ∧ Hid (keep.length = m) ∧ Hid (Sep B w0 (w.alloc (.cells #[.int .i64 at_, .bool dn, .slice A m c] 35)) (blkOb w.heap.size 35 #[.int .i64 at_, .bool dn, .slice A m c] :: rowOb 3 1 (.slice A m c) m (ints keep) :: rv3 r R (midX X) os)) := by
  obtain ⟨at_, dn, A, m, c, keep, h1, h2, h3, h4⟩ := h
  exact ⟨at_, dn, A, m, c, keep, h1, h2, h3, h4.newBlk _ _ _ rfl⟩
theorem zplan_cells (w : World) (a b c : Value) : (w.alloc (.cells #[a, b, c] 35)).cell? ⟨w.heap.size, 0, none⟩ = some a ∧ (w.alloc (.cells #[a, b, c] 35)).cell? ⟨w.heap.size, 1, none⟩ = some b ∧ (w.alloc (.cells #[a, b, c] 35)).cell? ⟨w.heap.size, 2, none⟩ = some c := by
  have hb : Blk (w.alloc (.cells #[a, b, c] 35)) w.heap.size 35 #[a, b, c] := Blk.new _ _ _
  exact ⟨hb.cell 0, hb.cell 1, hb.cell 2⟩
theorem opX_mid (f : (Nat → SlotD) → (Nat → SlotD)) (g : Bool → Bool) {keep : List Int} {dn : Bool} (h : tickB X.T = true) (hk : keep = keepOf X.T) (hd : dn = dnOf X.T) : opX X f g = { midX X with D := crashD keep (if g dn = true then f X.D else X.D), down := true } := by
  rw [opX_yes h, hk, hd]
set_option maxRecDepth 100000 in
set_option maxHeartbeats 2000000 in
theorem rd_append (h : Sep B w0 w (rv3 r R X os)) (hX : X.Ok) (hops : X.ops < 4611686018427387904) (i : Int) {A : Option Addr} {m c : Nat} {b : List (BitVec 8)} (hv : Holds w (.slice A m c) b) (hb64 : b.length ≤ 1000000) :
    Calls Tryz.prog 9 #[.pointer (some ⟨r, 0, none⟩), .int .i64 i, .slice A m c] w fun e w' => e = .returned (.int .i64 (appVE X i b)) ∧ ∃ R', Sep B w0 w' (rv3 r R' (appVX X i b) os) := by
  have hrd := h.rd hX
  have HCK := Lib.hid (rd_check hrd i)
  have hc := chk_cases X i
  have hn32 := hX.n32
  have q1 := hrd.c1
  have H := Lib.hid h
  have HX := Lib.hid hX
  have HV := Lib.hid hv
  unfold appVE appVX
  clear hv
  obtain ⟨re, hr⟩ : ∃ re, chkE X i = re := ⟨_, rfl⟩
  rw [hr] at HCK hc ⊢
  clear h hX hrd hr
  rcases hc with ⟨_, rfl⟩ | ⟨_, _, _, rfl⟩ | ⟨_, rfl, hin, s, rfl, hs, hs2⟩
  · go_enter Tryz.func9, Tryz.ntmps9
    go_wp2_with fail
    refine HCK.out.mono ?_
    rintro e w' ⟨rfl, rfl⟩
    go_wp2_with fail
    go_ret
    exact ⟨rfl, R, H.out⟩
  · go_enter Tryz.func9, Tryz.ntmps9
    go_wp2_with fail
    refine HCK.out.mono ?_
    rintro e w' ⟨rfl, rfl⟩
    go_wp2_with fail
    go_ret
    exact ⟨rfl, R, H.out⟩
  · rw [if_pos rfl, if_pos rfl, hs2]
    by_cases hfit : (X.D s).bytes.length + b.length ≤ (X.D s).size
    · have HAP : Hid (Calls Tryz.prog 51 #[.pointer (some ⟨R.g, 0, none⟩), .int .i64 (s : Int), .slice A m c] w fun e w' => e = .returned (.int .i64 0) ∧ ∃ S', Hid (Sep B w0 w' (rv3 r { R with S := S' } { X with D := appD X.D s b } os))) := by
        refine (rsepI_append H.out (by omega) (by omega) (s : Int) HV.out hb64).mono ?_
        rintro e w' ⟨h1, S', h2⟩
        have e1 : appEI (X.n + 2) X.D (s : Int) b = 0 := by unfold appEI appE; rw [if_pos hin, hs2, if_pos hfit]
        have e2 : appDI (X.n + 2) X.D (s : Int) b = appD X.D s b := by unfold appDI; rw [if_pos hin, hs2]
        rw [e1] at h1
        rw [e2] at h2
        exact ⟨h1, S', h2⟩
      rw [if_pos hfit, if_pos hfit]
      clear hfit hs2 hin
      go_enter Tryz.func9, Tryz.ntmps9
      go_wp2_with fail
      refine HCK.out.mono ?_
      rintro e w' ⟨rfl, rfl⟩
      go_wp2_with fail
      refine HAP.out.mono ?_
      rintro e w3 ⟨rfl, S', HS3⟩
      have HCO := Lib.hid (rd_counted (X := { X with D := appD X.D s b }) HS3.out ⟨HX.out.n2, HX.out.n32, HX.out.tm⟩ hops)
      clear q1 HAP HCK
      go_wp2_with fail
      refine HCO.out.mono ?_
      intro e w4 hco
      obtain ⟨at_, dn, A5, m5, c5, keep, rfl, HT, HM, HS5⟩ := rd_box hco
      obtain ⟨e0, e1, e2⟩ := zplan_cells w4 (.int .i64 0) (.bool false) (.slice none 0 0)
      obtain ⟨g0, g1, g2⟩ := zplan_cells w4 (.int .i64 at_) (.bool dn) (.slice A5 m5 c5)
      clear hco HCO
      obtain ⟨tb, htb⟩ : ∃ tb, tickB X.T = tb := ⟨_, rfl⟩
      have HTB := Lib.hid htb
      rw [show tickB ({ X with D := appD X.D s b } : DevD).T = tb from htb]
      clear htb
      cases tb with
      | false =>
        go_wp2_with fail
        go_ret
        refine ⟨by unfold opE; rw [HTB.out]; rfl, { R with S := S' }, ?_⟩
        rw [opX_no HTB.out]
        exact HS5.out.sub (.cons _ (.cons _ (List.Sublist.refl _)))
      | true =>
        have HCR := Lib.hid (rd_crash2 HS5.out HX.out.n32 HM.out (HT.out HTB.out).2.2)
        go_wp2_with fail
        refine HCR.out.mono ?_
        rintro e w6 ⟨rfl, R', HS6⟩
        have HS7 := Lib.hid HS6
        clear HS6 HCR
        go_wp2_with fail
        go_ret
        refine ⟨by unfold opE; rw [HTB.out]; rfl, R', ?_⟩
        rw [opX_mid _ _ HTB.out (HT.out HTB.out).2.1 (HT.out HTB.out).1]
        exact HS7.out
    · have HAP : Hid (Calls Tryz.prog 51 #[.pointer (some ⟨R.g, 0, none⟩), .int .i64 (s : Int), .slice A m c] w fun e w' => e = .returned (.int .i64 4) ∧ ∃ S', Hid (Sep B w0 w' (rv3 r { R with S := S' } X os))) := by
        refine (rsepI_append H.out (by omega) (by omega) (s : Int) HV.out hb64).mono ?_
        rintro e w' ⟨h1, S', h2⟩
        have e1 : appEI (X.n + 2) X.D (s : Int) b = 4 := by unfold appEI appE; rw [if_pos hin, hs2, if_neg hfit]
        have e2 : appDI (X.n + 2) X.D (s : Int) b = X.D := by unfold appDI appD; rw [if_pos hin, hs2, if_neg hfit]
        rw [e1] at h1
        rw [e2] at h2
        exact ⟨h1, S', h2⟩
      rw [if_neg hfit, if_neg hfit]
      clear hfit hs2 hin
      go_enter Tryz.func9, Tryz.ntmps9
      go_wp2_with fail
      refine HCK.out.mono ?_
      rintro e w' ⟨rfl, rfl⟩
      go_wp2_with fail
      refine HAP.out.mono ?_
      rintro e w3 ⟨rfl, S', HS3⟩
      clear q1 HAP HCK
      go_wp2_with fail
      go_ret
      exact ⟨rfl, { R with S := S' }, HS3.out⟩
set_option maxRecDepth 100000 in
set_option maxHeartbeats 2000000 in
theorem rd_sync (h : Sep B w0 w (rv3 r R X os)) (hX : X.Ok) (hops : X.ops < 4611686018427387904) (i : Int) :
    Calls Tryz.prog 11 #[.pointer (some ⟨r, 0, none⟩), .int .i64 i] w fun e w' => e = .returned (.int .i64 (oneVE X i)) ∧ ∃ R', Sep B w0 w' (rv3 r R' (SyncVX X i) os) := by
  have hrd := h.rd hX
  have HCK := Lib.hid (rd_check hrd i)
  have hc := chk_cases X i
  have hn32 := hX.n32
  have q1 := hrd.c1
  have H := Lib.hid h
  have HX := Lib.hid hX
  unfold oneVE SyncVX
  obtain ⟨re, hr⟩ : ∃ re, chkE X i = re := ⟨_, rfl⟩
  rw [hr] at HCK hc ⊢
  clear h hX hrd hr
  rcases hc with ⟨_, rfl⟩ | ⟨_, _, _, rfl⟩ | ⟨_, rfl, hin, s, rfl, hs, hs2⟩
  · go_enter Tryz.func11, Tryz.ntmps11
    go_wp2_with fail
    refine HCK.out.mono ?_
    rintro e w' ⟨rfl, rfl⟩
    go_wp2_with fail
    go_ret
    exact ⟨rfl, R, H.out⟩
  · go_enter Tryz.func11, Tryz.ntmps11
    go_wp2_with fail
    refine HCK.out.mono ?_
    rintro e w' ⟨rfl, rfl⟩
    go_wp2_with fail
    go_ret
    exact ⟨rfl, R, H.out⟩
  · rw [if_pos rfl, if_pos rfl, hs2]
    have HCO := Lib.hid (rd_counted H.out HX.out hops)
    clear q1
    go_enter Tryz.func11, Tryz.ntmps11
    go_wp2_with fail
    refine HCK.out.mono ?_
    rintro e w' ⟨rfl, rfl⟩
    clear HCK
    go_wp2_with fail
    refine HCO.out.mono ?_
    intro e w4 hco
    obtain ⟨at_, dn, A5, m5, c5, keep, rfl, HT, HM, HS5⟩ := rd_box hco
    obtain ⟨e0, e1, e2⟩ := zplan_cells w4 (.int .i64 0) (.bool false) (.slice none 0 0)
    obtain ⟨g0, g1, g2⟩ := zplan_cells w4 (.int .i64 at_) (.bool dn) (.slice A5 m5 c5)
    clear hco HCO
    obtain ⟨tb, htb⟩ : ∃ tb, tickB X.T = tb := ⟨_, rfl⟩
    have HTB := Lib.hid htb
    rw [htb]
    clear htb
    cases tb with
    | false =>
      have HDO : Hid (Calls Tryz.prog 57 #[.pointer (some ⟨R.g, 0, none⟩), .int .i64 (s : Int)] (w4.alloc (.cells #[.int .i64 at_, .bool dn, .slice A5 m5 c5] 35)) fun e w' => e = .returned (.int .i64 0) ∧ ∃ S', Hid (Sep B w0 w' (blkOb w4.heap.size 35 #[.int .i64 at_, .bool dn, .slice A5 m5 c5] :: rowOb 3 1 (.slice A5 m5 c5) m5 (ints keep) :: rv3 r { R with S := S' } { midX X with D := syncD X.D s } os))) := by
        have h6 : Sep B w0 (w4.alloc (.cells #[.int .i64 at_, .bool dn, .slice A5 m5 c5] 35)) (rv3 r R (midX X) (blkOb w4.heap.size 35 #[.int .i64 at_, .bool dn, .slice A5 m5 c5] :: rowOb 3 1 (.slice A5 m5 c5) m5 (ints keep) :: os)) := HS5.out.perm ((List.perm_append_comm (l₁ := [_, _]) (l₂ := [_, _, _])).append_right os)
        refine (rsepI_sync h6 (by omega) (show X.n + 2 ≤ 65536 by omega) (s : Int)).mono ?_
        rintro e w' ⟨h1, S', h2⟩
        have e1 : okEI (X.n + 2) (s : Int) = 0 := by unfold okEI; rw [if_pos hin]
        have e2 : syncDI (X.n + 2) X.D (s : Int) = syncD X.D s := by unfold syncDI; rw [if_pos hin, hs2]
        rw [show okEI ((midX X).n + 2) (s : Int) = 0 from e1] at h1
        rw [show syncDI ((midX X).n + 2) (midX X).D (s : Int) = syncD X.D s from e2] at h2
        exact ⟨h1, S', h2.perm ((List.perm_append_comm (l₁ := [_, _, _]) (l₂ := [_, _])).append_right os)⟩
      have hvr : Blk (w4.alloc (.cells #[.int .i64 at_, .bool dn, .slice A5 m5 c5] 35)) r 72 (rdCells R (midX X)) := HS5.out.get (.tail _ (.tail _ (.head _)))
      have q1 : (w4.alloc (.cells #[.int .i64 at_, .bool dn, .slice A5 m5 c5] 35)).cell? ⟨r, 1, none⟩ = some (.pointer (some ⟨R.g, 0, none⟩)) := hvr.cell 1
      clear hvr
      clear hin hs2
      go_wp2_with fail
      refine HDO.out.mono ?_
      rintro e w6 ⟨rfl, S', HS6⟩
      clear HDO q1
      go_wp2_with fail
      go_ret
      refine ⟨by unfold opE; rw [HTB.out]; rfl, { R with S := S' }, ?_⟩
      rw [opX_no HTB.out]
      exact HS6.out.sub (.cons _ (.cons _ (List.Sublist.refl _)))
    | true =>
      clear hin hs2
      have HCR := Lib.hid (rd_crash2 HS5.out HX.out.n32 HM.out (HT.out HTB.out).2.2)
      go_wp2_with fail
      refine HCR.out.mono ?_
      rintro e w6 ⟨rfl, R', HS6⟩
      have HS7 := Lib.hid HS6
      clear HS6 HCR
      go_wp2_with fail
      go_ret
      refine ⟨by unfold opE; rw [HTB.out]; rfl, R', ?_⟩
      rw [opX_mid _ _ HTB.out (HT.out HTB.out).2.1 (HT.out HTB.out).1]
      exact HS7.out
set_option maxRecDepth 100000 in
set_option maxHeartbeats 2000000 in
theorem rd_erase (h : Sep B w0 w (rv3 r R X os)) (hX : X.Ok) (hops : X.ops < 4611686018427387904) (i : Int) :
    Calls Tryz.prog 13 #[.pointer (some ⟨r, 0, none⟩), .int .i64 i] w fun e w' => e = .returned (.int .i64 (oneVE X i)) ∧ ∃ R', Sep B w0 w' (rv3 r R' (EraseVX X i) os) := by
  have hrd := h.rd hX
  have HCK := Lib.hid (rd_check hrd i)
  have hc := chk_cases X i
  have hn32 := hX.n32
  have q1 := hrd.c1
  have H := Lib.hid h
  have HX := Lib.hid hX
  unfold oneVE EraseVX
  obtain ⟨re, hr⟩ : ∃ re, chkE X i = re := ⟨_, rfl⟩
  rw [hr] at HCK hc ⊢
  clear h hX hrd hr
  rcases hc with ⟨_, rfl⟩ | ⟨_, _, _, rfl⟩ | ⟨_, rfl, hin, s, rfl, hs, hs2⟩
  · go_enter Tryz.func13, Tryz.ntmps13
    go_wp2_with fail
    refine HCK.out.mono ?_
    rintro e w' ⟨rfl, rfl⟩
    go_wp2_with fail
    go_ret
    exact ⟨rfl, R, H.out⟩
  · go_enter Tryz.func13, Tryz.ntmps13
    go_wp2_with fail
    refine HCK.out.mono ?_
    rintro e w' ⟨rfl, rfl⟩
    go_wp2_with fail
    go_ret
    exact ⟨rfl, R, H.out⟩
  · rw [if_pos rfl, if_pos rfl, hs2]
    have HCO := Lib.hid (rd_counted H.out HX.out hops)
    clear q1
    go_enter Tryz.func13, Tryz.ntmps13
    go_wp2_with fail
    refine HCK.out.mono ?_
    rintro e w' ⟨rfl, rfl⟩
    clear HCK
    go_wp2_with fail
    refine HCO.out.mono ?_
    intro e w4 hco
    obtain ⟨at_, dn, A5, m5, c5, keep, rfl, HT, HM, HS5⟩ := rd_box hco
    obtain ⟨e0, e1, e2⟩ := zplan_cells w4 (.int .i64 0) (.bool false) (.slice none 0 0)
    obtain ⟨g0, g1, g2⟩ := zplan_cells w4 (.int .i64 at_) (.bool dn) (.slice A5 m5 c5)
    clear hco HCO
    obtain ⟨tb, htb⟩ : ∃ tb, tickB X.T = tb := ⟨_, rfl⟩
    have HTB := Lib.hid htb
    rw [htb]
    clear htb
    cases tb with
    | false =>
      have HDO : Hid (Calls Tryz.prog 61 #[.pointer (some ⟨R.g, 0, none⟩), .int .i64 (s : Int)] (w4.alloc (.cells #[.int .i64 at_, .bool dn, .slice A5 m5 c5] 35)) fun e w' => e = .returned (.int .i64 0) ∧ ∃ S', Hid (Sep B w0 w' (blkOb w4.heap.size 35 #[.int .i64 at_, .bool dn, .slice A5 m5 c5] :: rowOb 3 1 (.slice A5 m5 c5) m5 (ints keep) :: rv3 r { R with S := S' } { midX X with D := eraseD X.D s } os))) := by
        have h6 : Sep B w0 (w4.alloc (.cells #[.int .i64 at_, .bool dn, .slice A5 m5 c5] 35)) (rv3 r R (midX X) (blkOb w4.heap.size 35 #[.int .i64 at_, .bool dn, .slice A5 m5 c5] :: rowOb 3 1 (.slice A5 m5 c5) m5 (ints keep) :: os)) := HS5.out.perm ((List.perm_append_comm (l₁ := [_, _]) (l₂ := [_, _, _])).append_right os)
        refine (rsepI_erase h6 (by omega) (show X.n + 2 ≤ 65536 by omega) (s : Int)).mono ?_
        rintro e w' ⟨h1, S', h2⟩
        have e1 : okEI (X.n + 2) (s : Int) = 0 := by unfold okEI; rw [if_pos hin]
        have e2 : eraseDI (X.n + 2) X.D (s : Int) = eraseD X.D s := by unfold eraseDI; rw [if_pos hin, hs2]
        rw [show okEI ((midX X).n + 2) (s : Int) = 0 from e1] at h1
        rw [show eraseDI ((midX X).n + 2) (midX X).D (s : Int) = eraseD X.D s from e2] at h2
        exact ⟨h1, S', h2.perm ((List.perm_append_comm (l₁ := [_, _, _]) (l₂ := [_, _])).append_right os)⟩
      have hvr : Blk (w4.alloc (.cells #[.int .i64 at_, .bool dn, .slice A5 m5 c5] 35)) r 72 (rdCells R (midX X)) := HS5.out.get (.tail _ (.tail _ (.head _)))
      have q1 : (w4.alloc (.cells #[.int .i64 at_, .bool dn, .slice A5 m5 c5] 35)).cell? ⟨r, 1, none⟩ = some (.pointer (some ⟨R.g, 0, none⟩)) := hvr.cell 1
      clear hvr
      clear hin hs2
      go_wp2_with fail
      refine HDO.out.mono ?_
      rintro e w6 ⟨rfl, S', HS6⟩
      clear HDO q1
      go_wp2_with fail
      go_ret
      refine ⟨by unfold opE; rw [HTB.out]; rfl, { R with S := S' }, ?_⟩
      rw [opX_no HTB.out]
      exact HS6.out.sub (.cons _ (.cons _ (List.Sublist.refl _)))
    | true =>
      cases dn with
      | true =>
        have HDO : Hid (Calls Tryz.prog 61 #[.pointer (some ⟨R.g, 0, none⟩), .int .i64 (s : Int)] (w4.alloc (.cells #[.int .i64 at_, .bool true, .slice A5 m5 c5] 35)) fun e w' => e = .returned (.int .i64 0) ∧ ∃ S', Hid (Sep B w0 w' (blkOb w4.heap.size 35 #[.int .i64 at_, .bool true, .slice A5 m5 c5] :: rowOb 3 1 (.slice A5 m5 c5) m5 (ints keep) :: rv3 r { R with S := S' } { midX X with D := eraseD X.D s } os))) := by
          have h6 : Sep B w0 (w4.alloc (.cells #[.int .i64 at_, .bool true, .slice A5 m5 c5] 35)) (rv3 r R (midX X) (blkOb w4.heap.size 35 #[.int .i64 at_, .bool true, .slice A5 m5 c5] :: rowOb 3 1 (.slice A5 m5 c5) m5 (ints keep) :: os)) := HS5.out.perm ((List.perm_append_comm (l₁ := [_, _]) (l₂ := [_, _, _])).append_right os)
          refine (rsepI_erase h6 (by omega) (show X.n + 2 ≤ 65536 by omega) (s : Int)).mono ?_
          rintro e w' ⟨h1, S', h2⟩
          have e1 : okEI (X.n + 2) (s : Int) = 0 := by unfold okEI; rw [if_pos hin]
          have e2 : eraseDI (X.n + 2) X.D (s : Int) = eraseD X.D s := by unfold eraseDI; rw [if_pos hin, hs2]
          rw [show okEI ((midX X).n + 2) (s : Int) = 0 from e1] at h1
          rw [show eraseDI ((midX X).n + 2) (midX X).D (s : Int) = eraseD X.D s from e2] at h2
          exact ⟨h1, S', h2.perm ((List.perm_append_comm (l₁ := [_, _, _]) (l₂ := [_, _])).append_right os)⟩
        have hvr : Blk (w4.alloc (.cells #[.int .i64 at_, .bool true, .slice A5 m5 c5] 35)) r 72 (rdCells R (midX X)) := HS5.out.get (.tail _ (.tail _ (.head _)))
        have q1 : (w4.alloc (.cells #[.int .i64 at_, .bool true, .slice A5 m5 c5] 35)).cell? ⟨r, 1, none⟩ = some (.pointer (some ⟨R.g, 0, none⟩)) := hvr.cell 1
        clear hvr
        clear hin hs2
        go_wp2_with fail
        refine HDO.out.mono ?_
        rintro e w6 ⟨rfl, S', HS6⟩
        have kb : Blk w6 w4.heap.size 35 #[.int .i64 at_, .bool true, .slice A5 m5 c5] := HS6.out.get (.head _)
        have u0 : w6.cell? ⟨w4.heap.size, 0, none⟩ = some (.int .i64 at_) := kb.cell 0
        have u1 : w6.cell? ⟨w4.heap.size, 1, none⟩ = some (.bool true) := kb.cell 1
        have u2 : w6.cell? ⟨w4.heap.size, 2, none⟩ = some (.slice A5 m5 c5) := kb.cell 2
        have HCR := Lib.hid (rd_crash2 HS6.out HX.out.n32 HM.out (HT.out HTB.out).2.2)
        clear HDO q1 kb
        go_wp2_with fail
        refine HCR.out.mono ?_
        rintro e w7 ⟨rfl, R', HS6⟩
        have HS7 := Lib.hid HS6
        clear HS6 HCR
        go_wp2_with fail
        go_ret
        refine ⟨by unfold opE; rw [HTB.out]; rfl, R', ?_⟩
        rw [opX_mid _ _ HTB.out (HT.out HTB.out).2.1 (HT.out HTB.out).1]
        exact HS7.out
      | false =>
        clear hin hs2
        have HCR := Lib.hid (rd_crash2 HS5.out HX.out.n32 HM.out (HT.out HTB.out).2.2)
        go_wp2_with fail
        refine HCR.out.mono ?_
        rintro e w6 ⟨rfl, R', HS6⟩
        have HS7 := Lib.hid HS6
        clear HS6 HCR
        go_wp2_with fail
        go_ret
        refine ⟨by unfold opE; rw [HTB.out]; rfl, R', ?_⟩
        rw [opX_mid _ _ HTB.out (HT.out HTB.out).2.1 (HT.out HTB.out).1]
        exact HS7.out
set_option maxRecDepth 100000 in
set_option maxHeartbeats 400000 in
theorem rd_restart (h : Sep B w0 w (rv3 r R X os)) (hX : X.Ok) :
    Calls Tryz.prog 17 #[.pointer (some ⟨r, 0, none⟩)] w fun e w' => e = .returned (.int .i64 0) ∧ Sep B w0 w' (rv3 r R (restartX X) os) := by
  have hrd := h.rd hX
  have HV := Lib.hid (rd_valid hrd)
  have q4 := hrd.c4
  have f4 := hrd.blk.frozen 4
  have H := Lib.hid h
  clear h hrd
  go_enter Tryz.func17, Tryz.ntmps17
  go_wp2_with fail
  refine HV.out.mono ?_
  rintro e w' ⟨rfl, rfl⟩
  go_wp2_with fail
  go_ret
  exact ⟨rfl, H.out.setBlk 4 (.bool false)⟩
end
end Go.Proofs.YteglaedkhopbgaaGreat

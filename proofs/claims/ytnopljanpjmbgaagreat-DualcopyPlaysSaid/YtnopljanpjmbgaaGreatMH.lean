/-
  A device in memory: its block, its disk, its timer; as one object or as three; A device's methods that only look: valid, check, Len, Unsynced, Room, Read, Down, Ops, Slots, Disk; A device's crash and its one operation; A device's one operation, for each of its three pairs of closures; A device's operations: Append, Sync, Erase; A device's Arm and Restart.
-/
import Derived.Test.YtnopljanpjmbgaaGreatMF
import Derived.Test.YtnopljanpjmbgaaGreatME
import Derived.StillTailTactics
import Derived.Deep.RegionHeld3
namespace Go.Proofs.YtnopljanpjmbgaaGreat
open Go.RowKit
set_option linter.unusedVariables false
/-- A timer as an object among others. -/
def tmOb (t pb : Nat) (kb : Option Nat) (P : Option PlanD) : Ob where
  P w := IsTimer w t pb kb P
  F := tmfoot t pb kb P
  keep hc hF h := h.chg hc hF
  lt h k hk := h.lt k hk
theorem blk_cells {w : World} {g : Nat} {t : TypeId} {cs : Array Value} (h : Blk w g t cs) : ∃ ob, w.heap[g]? = some ob ∧ ob.isCells = true := cellOb_blk g t cs w h g rfl
theorem cellOb_tm (t pb : Nat) (kb : Option Nat) (P : Option PlanD) : CellOb (tmOb t pb kb P) := fun w h k hk => by
  have h' : IsTimer w t pb kb P := h
  have hk' : tmfoot t pb kb P k := hk
  cases P with
  | none =>
    have e : k = t := hk'
    subst e
    exact blk_cells (show Blk w k _ _ from h')
  | some p =>
    obtain ⟨h1, h2, A, n, c, h3, h4, h5, h6, h7⟩ := h'
    rcases hk' with rfl | rfl | e
    · exact blk_cells h1
    · exact blk_cells h3
    · exact own_cells h4 k (h5.symm.trans e)
/-- What a device holds: its slots, its timer's plan, its operations so far, whether it is down. -/
structure DevD where
  n : Nat
  D : Nat → SlotD
  T : Option PlanD
  ops : Nat
  down : Bool
structure DevD.Ok (X : DevD) : Prop where
  n2 : 2 ≤ X.n
  n32 : X.n ≤ 32
  tm : OkP X.T
/-- Where its parts lie. -/
structure DLay where
  d : Nat
  rb : Option Nat
  lay : Lay
  t : Nat
  pb : Nat
  kb : Option Nat
def devCells (d t : Nat) (X : DevD) : Array Value := #[.pointer (some ⟨d, 0, none⟩), .pointer (some ⟨t, 0, none⟩), .int .i64 (X.n : Int), .int .i64 (X.ops : Int), .bool X.down]
def vfoot (v : Nat) (L : DLay) (X : DevD) : Nat → Prop := fun k => k = v ∨ dfoot L.d L.rb (X.n + 2) L.lay k ∨ tmfoot L.t L.pb L.kb X.T k
structure IsDev (w : World) (v : Nat) (L : DLay) (X : DevD) : Prop where
  blk : Blk w v 76 (devCells L.d L.t X)
  disk : IsDisk w L.d L.rb (X.n + 2) L.lay X.D
  tm : IsTimer w L.t L.pb L.kb X.T
  vd : ∀ k, k = v → ¬ dfoot L.d L.rb (X.n + 2) L.lay k
  vt : ∀ k, k = v → ¬ tmfoot L.t L.pb L.kb X.T k
  dt : ∀ k, dfoot L.d L.rb (X.n + 2) L.lay k → ¬ tmfoot L.t L.pb L.kb X.T k
  ok : X.Ok
section
variable {w w' : World} {B : Nat} {w0 : World} {os : List Ob} {v : Nat} {L : DLay} {X : DevD}
theorem IsDev.chg {F : Nat → Prop} (h : IsDev w v L X) (hc : Chg F w w') (hF : ∀ k, vfoot v L X k → ¬ F k) : IsDev w' v L X :=
  ⟨h.blk.chg hc (hF _ (.inl rfl)), h.disk.chg hc (fun k hk => hF _ (.inr (.inl hk))), h.tm.chg hc (fun k hk => hF _ (.inr (.inr hk))), h.vd, h.vt, h.dt, h.ok⟩
theorem IsDev.lt (h : IsDev w v L X) : ∀ k, vfoot v L X k → k < w.heap.size := by
  rintro k (rfl | hk | hk)
  · exact h.blk.lt
  · exact h.disk.lt k hk
  · exact h.tm.lt k hk
theorem IsDev.below (h : IsDev w v L X) (hb : Below w.heap.size w w') : IsDev w' v L X := h.chg (F := fun _ => False) (Chg.of_below hb) (fun _ _ h => h)
theorem IsDev.drewN (h : IsDev w v L X) (q : Nat) : IsDev (w.drewN q) v L X := h.below (bel_drewN' w q)
/-- A device as one object. -/
def devOb (v : Nat) (L : DLay) (X : DevD) : Ob where
  P w := IsDev w v L X
  F := vfoot v L X
  keep hc hF h := h.chg hc hF
  lt h k hk := h.lt k hk
theorem cellOb_dev (v : Nat) (L : DLay) (X : DevD) : CellOb (devOb v L X) := fun w h k hk => by
  have h' : IsDev w v L X := h
  rcases hk with rfl | hk | hk
  · exact blk_cells h'.blk
  · exact cellOb_disk _ _ _ _ _ w h'.disk k hk
  · exact cellOb_tm _ _ _ _ w h'.tm k hk
/-- As three objects. -/
def dv3 (v : Nat) (L : DLay) (X : DevD) (os : List Ob) : List Ob := blkOb v 76 (devCells L.d L.t X) :: diskOb L.d L.rb (X.n + 2) L.lay X.D :: tmOb L.t L.pb L.kb X.T :: os
theorem Sep.dev (h : Sep B w0 w (devOb v L X :: os)) : IsDev w v L X := h.get (.head _)
theorem Sep.split (h : Sep B w0 w (devOb v L X :: os)) : Sep B w0 w (dv3 v L X os) := by
  have hd := h.dev
  obtain ⟨h1, h2, h3, h4⟩ := h
  obtain ⟨g1, g2⟩ := List.pairwise_cons.1 h4
  have hB : ∀ k, vfoot v L X k → B ≤ k := (h3 _ (.head _)).2
  refine ⟨h1, h2, ?_, ?_⟩
  · intro o ho
    unfold dv3 at ho
    rcases List.mem_cons.1 ho with rfl | ho
    · exact ⟨hd.blk, fun k hk => hB k (.inl hk)⟩
    rcases List.mem_cons.1 ho with rfl | ho
    · exact ⟨hd.disk, fun k hk => hB k (.inr (.inl hk))⟩
    rcases List.mem_cons.1 ho with rfl | ho
    · exact ⟨hd.tm, fun k hk => hB k (.inr (.inr hk))⟩
    · exact h3 o (.tail _ ho)
  · refine List.pairwise_cons.2 ⟨?_, List.pairwise_cons.2 ⟨?_, List.pairwise_cons.2 ⟨?_, g2⟩⟩⟩
    · intro o ho k hk
      rcases List.mem_cons.1 ho with rfl | ho
      · exact hd.vd k hk
      rcases List.mem_cons.1 ho with rfl | ho
      · exact hd.vt k hk
      · exact g1 o ho k (.inl hk)
    · intro o ho k hk
      rcases List.mem_cons.1 ho with rfl | ho
      · exact hd.dt k hk
      · exact g1 o ho k (.inr (.inl hk))
    · intro o ho k hk
      exact g1 o ho k (.inr (.inr hk))
theorem Sep.join (h : Sep B w0 w (dv3 v L X os)) (hX : X.Ok) : Sep B w0 w (devOb v L X :: os) := by
  have b1 : Blk w v 76 (devCells L.d L.t X) := h.get (.head _)
  have b2 : IsDisk w L.d L.rb (X.n + 2) L.lay X.D := h.get (.tail _ (.head _))
  have b3 : IsTimer w L.t L.pb L.kb X.T := h.get (.tail _ (.tail _ (.head _)))
  obtain ⟨h1, h2, h3, h4⟩ := h
  unfold dv3 at h3 h4
  obtain ⟨g1, g2⟩ := List.pairwise_cons.1 h4
  obtain ⟨g3, g4⟩ := List.pairwise_cons.1 g2
  obtain ⟨g5, g6⟩ := List.pairwise_cons.1 g4
  refine ⟨h1, h2, ?_, List.pairwise_cons.2 ⟨?_, g6⟩⟩
  · intro o ho
    rcases List.mem_cons.1 ho with rfl | ho
    · refine ⟨⟨b1, b2, b3, g1 _ (.head _), g1 _ (.tail _ (.head _)), g3 _ (.head _), hX⟩, ?_⟩
      rintro k (hk | hk | hk)
      · exact (h3 _ (.head _)).2 k hk
      · exact (h3 _ (.tail _ (.head _))).2 k hk
      · exact (h3 _ (.tail _ (.tail _ (.head _)))).2 k hk
    · exact h3 o (.tail _ (.tail _ (.tail _ ho)))
  · rintro o ho k (hk | hk | hk)
    · exact g1 o (.tail _ (.tail _ ho)) k hk
    · exact g3 o (.tail _ ho) k hk
    · exact g5 o ho k hk
theorem Sep.vcongr (h : Sep B w0 w (devOb v L X :: os)) {D' : Nat → SlotD} (hD : ∀ i, i < X.n + 2 → D' i = X.D i) : Sep B w0 w (devOb v L { X with D := D' } :: os) :=
  h.step (a' := devOb v L { X with D := D' }) (Chg.refl _ _) ⟨h.dev.blk, h.dev.disk.congr hD, h.dev.tm, h.dev.vd, h.dev.vt, h.dev.dt, ⟨h.dev.ok.n2, h.dev.ok.n32, h.dev.ok.tm⟩⟩ (fun _ hk => .inl hk)
end
end Go.Proofs.YtnopljanpjmbgaaGreat
namespace Go.Proofs.YtnopljanpjmbgaaGreat
open Go.RowKit
set_option linter.unusedVariables false
/-- The error of a slot. -/
def chkE (X : DevD) (i : Int) : Int := if X.down = true then 13 else if inRange (X.n + 2) i then 0 else 3
theorem chk_cases (X : DevD) (i : Int) : (X.down = true ∧ chkE X i = 13) ∨ (X.down = false ∧ (i < 0 ∨ ((X.n + 2 : Nat) : Int) ≤ i) ∧ ¬ inRange (X.n + 2) i ∧ chkE X i = 3) ∨ (X.down = false ∧ chkE X i = 0 ∧ inRange (X.n + 2) i ∧ ∃ s : Nat, i = (s : Int) ∧ s < X.n + 2 ∧ i.toNat = s) := by
  unfold chkE
  cases hd : X.down with
  | true => exact .inl ⟨rfl, by simp⟩
  | false =>
    rcases in_or (X.n + 2) i with ⟨s, h1, h2, h3, h4⟩ | ⟨h1, h2⟩
    · exact .inr (.inr ⟨rfl, by simp [h3], h3, s, h1, h2, h4⟩)
    · exact .inr (.inl ⟨rfl, h1, h2, by simp [h2]⟩)
section
variable {w w' : World} {v : Nat} {L : DLay} {X : DevD}
theorem IsDev.c0 (h : IsDev w v L X) : w.cell? ⟨v, 0, none⟩ = some (.pointer (some ⟨L.d, 0, none⟩)) := h.blk.cell 0
theorem IsDev.c1 (h : IsDev w v L X) : w.cell? ⟨v, 1, none⟩ = some (.pointer (some ⟨L.t, 0, none⟩)) := h.blk.cell 1
theorem IsDev.c2 (h : IsDev w v L X) : w.cell? ⟨v, 2, none⟩ = some (.int .i64 (X.n : Int)) := h.blk.cell 2
theorem IsDev.c3 (h : IsDev w v L X) : w.cell? ⟨v, 3, none⟩ = some (.int .i64 (X.ops : Int)) := h.blk.cell 3
theorem IsDev.c4 (h : IsDev w v L X) : w.cell? ⟨v, 4, none⟩ = some (.bool X.down) := h.blk.cell 4
set_option maxRecDepth 100000 in
set_option maxHeartbeats 400000 in
theorem valid_dev (h : IsDev w v L X) :
    Calls Tryz.prog 32 #[.pointer (some ⟨v, 0, none⟩)] w fun e w' => e = .returned (.bool true) ∧ w = w' := by
  have q2 := h.c2
  have hn := h.ok.n2
  have hn32 := h.ok.n32
  obtain ⟨n, hnn⟩ : ∃ n, X.n = n := ⟨_, rfl⟩
  rw [hnn] at q2 hn hn32
  have hd : decide (0 < n) = true := decide_eq_true (by omega)
  clear h hnn
  go_enter Tryz.func32, Tryz.ntmps32
  go_wp2_with fail
  go_ret
  exact ⟨rfl, rfl⟩
set_option maxRecDepth 100000 in
set_option maxHeartbeats 1000000 in
theorem check_dev (h : IsDev w v L X) (i : Int) :
    Calls Tryz.prog 33 #[.pointer (some ⟨v, 0, none⟩), .int .i64 i] w fun e w' => e = .returned (.int .i64 (chkE X i)) ∧ w = w' := by
  have HV := Lib.hid (valid_dev h)
  have q2 := h.c2
  have q4 := h.c4
  have hn32 := h.ok.n32
  have hc := chk_cases X i
  obtain ⟨n, hnn⟩ : ∃ n, X.n = n := ⟨_, rfl⟩
  obtain ⟨r, hr⟩ : ∃ r, chkE X i = r := ⟨_, rfl⟩
  obtain ⟨dn, hdn⟩ : ∃ dn, X.down = dn := ⟨_, rfl⟩
  rw [hnn] at q2 hn32
  rw [hdn] at q4
  rw [hnn, hr, hdn] at hc
  rw [hr]
  clear h hnn hr hdn
  rcases hc with ⟨rfl, rfl⟩ | ⟨rfl, hi, _, rfl⟩ | ⟨rfl, rfl, _, s, rfl, hs, _⟩
  · go_enter Tryz.func33, Tryz.ntmps33
    go_wp2_with fail
    refine HV.out.mono ?_
    rintro e w' ⟨rfl, rfl⟩
    go_wp2_with fail
    go_ret
    exact ⟨rfl, rfl⟩
  · by_cases h0 : i < 0
    · clear hi
      go_enter Tryz.func33, Tryz.ntmps33
      go_wp2_with fail
      refine HV.out.mono ?_
      rintro e w' ⟨rfl, rfl⟩
      go_wp2_with fail
      go_ret
      exact ⟨rfl, rfl⟩
    · have h1 : (n : Int) + 2 ≤ i := by omega
      clear hi
      go_enter Tryz.func33, Tryz.ntmps33
      go_wp2_with fail
      refine HV.out.mono ?_
      rintro e w' ⟨rfl, rfl⟩
      go_wp2_with fail
      go_ret
      exact ⟨rfl, rfl⟩
  · have h1 : (s : Int) < (n : Int) + 2 := by omega
    go_enter Tryz.func33, Tryz.ntmps33
    go_wp2_with fail
    refine HV.out.mono ?_
    rintro e w' ⟨rfl, rfl⟩
    go_wp2_with fail
    go_ret
    exact ⟨rfl, rfl⟩
/-- What Len, Room, Durable of a slot answer. -/
def lenV (X : DevD) (i : Int) : Int := if chkE X i = 0 then ((X.D i.toNat).bytes.length : Int) else 0
def roomV (X : DevD) (i : Int) : Int := if chkE X i = 0 then ((X.D i.toNat).size : Int) - ((X.D i.toNat).bytes.length : Int) else 0
def unsV (X : DevD) (i : Int) : Int := if chkE X i = 0 then ((X.D i.toNat).bytes.length : Int) - ((X.D i.toNat).dur : Int) else 0
set_option maxRecDepth 100000 in
set_option maxHeartbeats 1000000 in
theorem dev_len (h : IsDev w v L X) (i : Int) :
    Calls Tryz.prog 43 #[.pointer (some ⟨v, 0, none⟩), .int .i64 i] w fun e w' => e = .returned (.tuple #[.int .i64 (lenV X i), .int .i64 (chkE X i)]) ∧ Below w.heap.size w w' := by
  have HV := Lib.hid (check_dev h i)
  have q0 := h.c0
  have hc := chk_cases X i
  have HD := Lib.hid h.disk
  unfold lenV
  obtain ⟨r, hr⟩ : ∃ r, chkE X i = r := ⟨_, rfl⟩
  rw [hr] at HV hc ⊢
  clear h hr
  rcases hc with ⟨_, rfl⟩ | ⟨_, _, _, rfl⟩ | ⟨_, rfl, _, s, rfl, hs, hs2⟩
  · go_enter Tryz.func43, Tryz.ntmps43
    go_wp2_with fail
    refine HV.out.mono ?_
    rintro e w' ⟨rfl, rfl⟩
    go_wp2_with fail
    go_ret2
    exact ⟨rfl, Below.refl _ _⟩
  · go_enter Tryz.func43, Tryz.ntmps43
    go_wp2_with fail
    refine HV.out.mono ?_
    rintro e w' ⟨rfl, rfl⟩
    go_wp2_with fail
    go_ret2
    exact ⟨rfl, Below.refl _ _⟩
  · have HL := Lib.hid (disk_len HD.out (by omega) s hs)
    rw [if_pos rfl, hs2]
    obtain ⟨y, hy⟩ : ∃ y : Int, ((X.D s).bytes.length : Int) = y := ⟨_, rfl⟩
    rw [hy] at HL ⊢
    clear hy hs2
    go_enter Tryz.func43, Tryz.ntmps43
    go_wp2_with fail
    refine HV.out.mono ?_
    rintro e w' ⟨rfl, rfl⟩
    go_wp2_with fail
    refine HL.out.mono ?_
    rintro e w' ⟨rfl, hb⟩
    have HB := Lib.hid hb
    clear hb
    go_wp2_with fail
    go_ret2
    exact ⟨rfl, HB.out⟩
set_option maxRecDepth 100000 in
set_option maxHeartbeats 1000000 in
theorem dev_unsynced (h : IsDev w v L X) (i : Int) :
    Calls Tryz.prog 12 #[.pointer (some ⟨v, 0, none⟩), .int .i64 i] w fun e w' => e = .returned (.tuple #[.int .i64 (unsV X i), .int .i64 (chkE X i)]) ∧ Below w.heap.size w w' := by
  have HV := Lib.hid (dev_len h i)
  have hc := chk_cases X i
  have H := Lib.hid h
  unfold lenV at HV
  unfold unsV
  obtain ⟨r, hr⟩ : ∃ r, chkE X i = r := ⟨_, rfl⟩
  rw [hr] at HV hc ⊢
  clear h hr
  rcases hc with ⟨_, rfl⟩ | ⟨_, _, _, rfl⟩ | ⟨_, rfl, _, s, rfl, hs, hs2⟩
  · rw [if_neg (by omega)] at HV
    go_enter Tryz.func12, Tryz.ntmps12
    go_wp2_with fail
    refine HV.out.mono ?_
    rintro e w' ⟨rfl, hb⟩
    have HB := Lib.hid hb
    clear hb
    go_wp2_with fail
    go_ret2
    exact ⟨rfl, HB.out⟩
  · rw [if_neg (by omega)] at HV
    go_enter Tryz.func12, Tryz.ntmps12
    go_wp2_with fail
    refine HV.out.mono ?_
    rintro e w' ⟨rfl, hb⟩
    have HB := Lib.hid hb
    clear hb
    go_wp2_with fail
    go_ret2
    exact ⟨rfl, HB.out⟩
  · rw [if_pos rfl, hs2] at HV
    rw [if_pos rfl, hs2]
    have HN := Lib.hid (H.out.disk.nums hs)
    obtain ⟨y, hy⟩ : ∃ y : Nat, (X.D s).bytes.length = y := ⟨_, rfl⟩
    obtain ⟨z, hz⟩ : ∃ z : Nat, (X.D s).dur = z := ⟨_, rfl⟩
    rw [hy] at HV HN ⊢
    rw [hz] at HN ⊢
    have hyz := HN.out
    have HZ := Lib.hid hz
    clear hy hs2 hz HN
    go_enter Tryz.func12, Tryz.ntmps12
    go_wp2_with fail
    refine HV.out.mono ?_
    rintro e w1 ⟨rfl, hb⟩
    have hd := H.out.below hb
    have q0 := hd.c0
    have HDU := Lib.hid (disk_durable hd.disk (by omega) s hs)
    rw [HZ.out] at HDU
    have HB := Lib.hid hb
    clear hb hd
    go_wp2_with fail
    refine HDU.out.mono ?_
    rintro e w2 ⟨rfl, hb⟩
    have HB2 := Lib.hid (HB.out.trans (hb.mono HB.out.size))
    clear hb q0
    go_wp2_with fail
    go_ret2
    exact ⟨rfl, HB2.out⟩
/-- What Read answers. -/
def VReadQ (w : World) (X : DevD) (i off m : Int) (v : Value) (r : Int) (w' : World) : Prop :=
  (chkE X i ≠ 0 ∧ r = chkE X i ∧ v = .slice none 0 0) ∨
    (chkE X i = 0 ∧ ∃ s : Nat, i = (s : Int) ∧ s < X.n + 2 ∧ ((badRead (X.D s).bytes.length off m ∧ r = 3 ∧ v = .slice none 0 0) ∨
      ∃ a b : Nat, off = a ∧ m = b ∧ a + b ≤ (X.D s).bytes.length ∧ r = 0 ∧ w'.ownsRow w.heap.size 5 1 v b (u8s (((X.D s).bytes.drop a).take b))))
set_option maxRecDepth 100000 in
set_option maxHeartbeats 1000000 in
theorem dev_read (h : IsDev w v L X) (i off m : Int) :
    Calls Tryz.prog 9 #[.pointer (some ⟨v, 0, none⟩), .int .i64 i, .int .i64 off, .int .i64 m] w fun e w' => ∃ u r, e = .returned (.tuple #[u, .int .i64 r]) ∧ VReadQ w X i off m u r w' ∧ Below w.heap.size w w' := by
  have HV := Lib.hid (check_dev h i)
  have q0 := h.c0
  have hc := chk_cases X i
  have HD := Lib.hid h.disk
  unfold VReadQ
  obtain ⟨r, hr⟩ : ∃ r, chkE X i = r := ⟨_, rfl⟩
  rw [hr] at HV hc ⊢
  clear h hr
  rcases hc with ⟨_, rfl⟩ | ⟨_, _, _, rfl⟩ | ⟨_, rfl, _, s, rfl, hs, hs2⟩
  · go_enter Tryz.func9, Tryz.ntmps9
    go_wp2_with fail
    refine HV.out.mono ?_
    rintro e w' ⟨rfl, rfl⟩
    go_wp2_with fail
    go_ret2
    exact ⟨_, _, rfl, .inl ⟨by omega, rfl, rfl⟩, Below.refl _ _⟩
  · go_enter Tryz.func9, Tryz.ntmps9
    go_wp2_with fail
    refine HV.out.mono ?_
    rintro e w' ⟨rfl, rfl⟩
    go_wp2_with fail
    go_ret2
    exact ⟨_, _, rfl, .inl ⟨by omega, rfl, rfl⟩, Below.refl _ _⟩
  · have HL := Lib.hid (disk_read HD.out (by omega) (s : Int) off m)
    go_enter Tryz.func9, Tryz.ntmps9
    go_wp2_with fail
    refine HV.out.mono ?_
    rintro e w' ⟨rfl, rfl⟩
    go_wp2_with fail
    refine HL.out.mono ?_
    rintro e w' ⟨u, r, rfl, hq, hb⟩
    have HB := Lib.hid hb
    have HQ := Lib.hid hq
    clear hb hq
    go_wp2_with fail
    go_ret2
    refine ⟨_, _, rfl, .inr ⟨by trivial, s, rfl, hs, ?_⟩, HB.out⟩
    rcases HQ.out with ⟨s1, a, b, e1, _, e2, e3, e4, e5, e6⟩ | ⟨s1, e1, _, e2, e3, e4⟩ | ⟨e1, _⟩
    · obtain rfl : s1 = s := by omega
      exact .inr ⟨a, b, e2, e3, e4, e5, e6⟩
    · obtain rfl : s1 = s := by omega
      exact .inl ⟨e2, e3, e4⟩
    · exfalso; omega
set_option maxRecDepth 100000 in
set_option maxHeartbeats 400000 in
theorem dev_down (h : IsDev w v L X) :
    Calls Tryz.prog 81 #[.pointer (some ⟨v, 0, none⟩)] w fun e w' => e = .returned (.bool X.down) ∧ w = w' := by
  have HV := Lib.hid (valid_dev h)
  have q4 := h.c4
  clear h
  go_enter Tryz.func81, Tryz.ntmps81
  go_wp2_with fail
  refine HV.out.mono ?_
  rintro e w' ⟨rfl, rfl⟩
  go_wp2_with fail
  go_ret
  exact ⟨rfl, rfl⟩
set_option maxRecDepth 100000 in
set_option maxHeartbeats 400000 in
theorem dev_ops (h : IsDev w v L X) :
    Calls Tryz.prog 6 #[.pointer (some ⟨v, 0, none⟩)] w fun e w' => e = .returned (.int .i64 (X.ops : Int)) ∧ w = w' := by
  have HV := Lib.hid (valid_dev h)
  have q3 := h.c3
  clear h
  go_enter Tryz.func6, Tryz.ntmps6
  go_wp2_with fail
  refine HV.out.mono ?_
  rintro e w' ⟨rfl, rfl⟩
  go_wp2_with fail
  go_ret
  exact ⟨rfl, rfl⟩
set_option maxRecDepth 100000 in
set_option maxHeartbeats 400000 in
theorem dev_slots (h : IsDev w v L X) :
    Calls Tryz.prog 57 #[.pointer (some ⟨v, 0, none⟩)] w fun e w' => e = .returned (.int .i64 (X.n : Int)) ∧ w = w' := by
  have HV := Lib.hid (valid_dev h)
  have q2 := h.c2
  clear h
  go_enter Tryz.func57, Tryz.ntmps57
  go_wp2_with fail
  refine HV.out.mono ?_
  rintro e w' ⟨rfl, rfl⟩
  go_wp2_with fail
  go_ret
  exact ⟨rfl, rfl⟩
end
end Go.Proofs.YtnopljanpjmbgaaGreat
namespace Go.Proofs.YtnopljanpjmbgaaGreat
open Go.RowKit
set_option linter.unusedVariables false
/-- The objects of a list are there, and what was there before. -/
def Kept (B : Nat) (w0 : World) (os : List Ob) (W : World) : Prop := Below B w0 W ∧ ∀ o, o ∈ os → o.P W
theorem Sep.kept {B : Nat} {w0 w : World} {os os' : List Ob} (h : Sep B w0 w os') (hs : ∀ o, o ∈ os → o ∈ os') : Kept B w0 os w := ⟨h.bel, fun o ho => h.get (hs o ho)⟩
section
variable {B : Nat} {w0 w w' : World} {os : List Ob} {v : Nat} {L : DLay} {X : DevD}
theorem Sep.blk0 {g : Nat} {t : TypeId} {cs : Array Value} (h : Sep B w0 w (blkOb g t cs :: os)) : Blk w g t cs := h.get (.head _)
set_option maxRecDepth 100000 in
set_option maxHeartbeats 2000000 in
theorem sep_vcrash (h : Sep B w0 w (dv3 v L X os)) (hC : AllCells os) (hn : X.n ≤ 32) (at_ : Int) (dn : Bool) (A : Option Addr) (m c : Nat) (zs : List Int) (hr : ∀ W, Kept B w0 os W → Reads W W.heap.size 1 A m (ints zs)) (h1 : 1 ≤ m) (h2 : m ≤ 34) (hk : ∀ z ∈ zs, 0 ≤ z ∧ z ≤ 8192) :
    Calls Tryz.prog 73 #[.pointer (some ⟨v, 0, none⟩), planV at_ dn A m c] w fun e w' => e = .returned (.tuple #[]) ∧ Sep B w0 w' (dv3 v L { X with D := crashD zs X.D, down := true } os) := by
  obtain ⟨W1, hW1⟩ : ∃ W1, W1 = w.alloc (.cells #[.int .i64 at_, .bool dn, .slice A m c] 64) := ⟨_, rfl⟩
  have hs1 : Sep B w0 W1 (blkOb w.heap.size 64 #[.int .i64 at_, .bool dn, .slice A m c] :: dv3 v L X os) := by rw [hW1]; exact h.newBlk _ _ _ rfl
  have hb1 := hs1.blk0
  have hv : Blk W1 v 76 (devCells L.d L.t X) := hs1.get (.tail _ (.head _))
  have q0 : W1.cell? ⟨v, 0, none⟩ = some (.pointer (some ⟨L.d, 0, none⟩)) := hv.cell 0
  have q2 : W1.cell? ⟨w.heap.size, 2, none⟩ = some (.slice A m c) := hb1.cell 2
  have HS1 := Lib.hid hs1
  have HC := Lib.hid hC
  have HR := Lib.hid hr
  have HK := Lib.hid hk
  have HW1 := Lib.hid hW1
  clear hs1 hb1 hv hC hr hk h hW1
  unfold planV
  go_enter Tryz.func73, Tryz.ntmps73
  go_wp2_with fail
  rw [← HW1.out]
  go_still_tail 7, (by kernel_rfl)
  change wpList _ _ _ _ _ W1.drew
  obtain ⟨W2, hW2⟩ : ∃ W2, W2 = W1.drew := ⟨_, rfl⟩
  have HS2 : Hid (Sep B w0 W2 (diskOb L.d L.rb (X.n + 2) L.lay X.D :: blkOb w.heap.size 64 #[.int .i64 at_, .bool dn, .slice A m c] :: blkOb v 76 (devCells L.d L.t X) :: tmOb L.t L.pb L.kb X.T :: os)) := by
    rw [hW2]
    exact (HS1.out.drew).perm ((List.perm_middle (l₁ := [_, _])))
  have HCR := Lib.hid (sep_crashdisk HS2.out (AllCells.cons (cellOb_blk _ _ _) (AllCells.cons (cellOb_blk _ _ _) (AllCells.cons (cellOb_tm _ _ _ _) HC.out))) (by omega) (by omega) A m c zs (fun Y D' hY => HR.out Y (hY.kept (fun o ho => .tail _ (.tail _ (.tail _ (.tail _ ho)))))) h1 h2 (fun z hz => by have := HK.out z hz; omega))
  rw [← hW2]
  clear hW2 q0 q2
  go_wp2_with fail
  refine HCR.out.mono ?_
  rintro e w3 ⟨rfl, hs⟩
  have hv : Blk w3 v 76 (devCells L.d L.t X) := hs.get (.tail _ (.tail _ (.head _)))
  have f4 := hv.frozen 4
  have q4 : w3.cell? ⟨v, 4, none⟩ = some (.bool X.down) := hv.cell 4
  have HS3 := Lib.hid hs
  clear hs hv HCR
  go_wp2_with fail
  go_end0
  refine ⟨rfl, ?_⟩
  have h4 : Sep B w0 w3 (blkOb v 76 (devCells L.d L.t X) :: diskOb L.d L.rb (X.n + 2) L.lay (crashD zs X.D) :: tmOb L.t L.pb L.kb X.T :: os) := (HS3.out.sub (.cons_cons _ (.cons _ (List.Sublist.refl _)))).perm (.swap _ _ _)
  exact h4.setBlk 4 (.bool true)
end
end Go.Proofs.YtnopljanpjmbgaaGreat
namespace Go.Proofs.YtnopljanpjmbgaaGreat
open Go.RowKit
set_option linter.unusedVariables false
def keepOf : Option PlanD → List Int
  | none => []
  | some p => p.keep
def dnOf : Option PlanD → Bool
  | none => false
  | some p => p.dn
/-- What an operation answers and leaves: f is what it does, g whether it has been done in a crash. -/
def opE (X : DevD) : Int := if tickB X.T = true then 13 else 0
def opX (X : DevD) (f : (Nat → SlotD) → (Nat → SlotD)) (g : Bool → Bool) : DevD where
  n := X.n
  D := if tickB X.T = true then crashD (keepOf X.T) (if g (dnOf X.T) = true then f X.D else X.D) else f X.D
  T := tickP X.T
  ops := X.ops + 1
  down := X.down || tickB X.T
theorem opX_ok {X : DevD} (h : X.Ok) (f : (Nat → SlotD) → (Nat → SlotD)) (g : Bool → Bool) : (opX X f g).Ok := ⟨h.n2, h.n32, h.tm.tick⟩
/-- An operation without a crash. -/
def midX (X : DevD) : DevD := { X with T := tickP X.T, ops := X.ops + 1 }
theorem opX_no {X : DevD} (h : tickB X.T = false) (f : (Nat → SlotD) → (Nat → SlotD)) (g : Bool → Bool) : opX X f g = { midX X with D := f X.D } := by
  unfold opX midX
  rw [h]
  simp
theorem opX_yes {X : DevD} (h : tickB X.T = true) (f : (Nat → SlotD) → (Nat → SlotD)) (g : Bool → Bool) : opX X f g = { midX X with D := crashD (keepOf X.T) (if g (dnOf X.T) = true then f X.D else X.D), down := true } := by
  unfold opX midX
  rw [h]
  simp
/-- The closure does f. -/
def Does (B : Nat) (w0 : World) (v : Nat) (os : List Ob) (f : (Nat → SlotD) → (Nat → SlotD)) (n d : Nat) (F : FuncId) (caps : Array Value) : Prop :=
  ∀ (W : World) (L' : DLay) (Y : DevD) (ex : List Ob), Y.n = n → L'.d = d → Sep B w0 W (dv3 v L' Y (ex ++ os)) → Calls Tryz.prog F caps W fun e w' => e = .returned (.tuple #[]) ∧ ∃ lay', Sep B w0 w' (dv3 v { L' with lay := lay' } { Y with D := f Y.D } (ex ++ os))
section
variable {B : Nat} {w0 w w' : World} {os : List Ob} {v : Nat} {L : DLay} {X : DevD}
theorem vtick (h : Sep B w0 w (dv3 v L X os)) (hX : OkP X.T) :
    Calls Tryz.prog 86 #[.pointer (some ⟨L.t, 0, none⟩)] w fun e w' => e = .returned (.bool (tickB X.T)) ∧ Sep B w0 w' (dv3 v L { X with T := tickP X.T } os) := by
  have ht : IsTimer w L.t L.pb L.kb X.T := h.get (.tail _ (.tail _ (.head _)))
  refine (timer_tick ht (fun p hp => ?_)).mono ?_
  · obtain ⟨⟨⟨h1, h2⟩, _⟩, h3⟩ := hX p hp
    exact ⟨h3, h2⟩
  · rintro e w' ⟨h1, h2, h3⟩
    refine ⟨h1, ?_⟩
    have hF : ∀ k, tmfoot L.t L.pb L.kb (tickP X.T) k → tmfoot L.t L.pb L.kb X.T k ∨ w.heap.size ≤ k := by
      intro k hk
      cases hT : X.T with
      | none => rw [hT] at hk; exact .inl hk
      | some p =>
        rw [hT] at hk
        unfold tickP at hk
        dsimp only [Option.bind] at hk
        split at hk
        · exact .inl hk
        · exact .inl (.inl hk)
    exact h.step2 (a := tmOb L.t L.pb L.kb X.T) (a' := tmOb L.t L.pb L.kb (tickP X.T)) h3 h2 hF
set_option maxHeartbeats 400000 in
theorem done_Append (at_ : Int) (dn : Bool) (A : Option Addr) (m c : Nat) (w : World) :
    Calls Tryz.prog 38 #[planV at_ dn A m c] w fun e w' => e = .returned (.bool true) ∧ Below w.heap.size w w' := by
  unfold planV
  go_enter Tryz.func38, Tryz.ntmps38
  go_wp2_with fail
  go_ret
  exact ⟨rfl, (Below.refl _ _).alloc (Nat.le_refl _) _⟩
set_option maxRecDepth 100000 in
set_option maxHeartbeats 4000000 in
theorem op_Append (h : Sep B w0 w (dv3 v L X os)) (hX : X.Ok) (hops : X.ops < 4611686018427387904) (hC : AllCells os) (f : (Nat → SlotD) → (Nat → SlotD)) (c0 : Value) (c1 : Value) (c2 : Value) (hdo : Does B w0 v os f X.n L.d 36 #[c0, c1, c2]) :
    Calls Tryz.prog 35 #[.pointer (some ⟨v, 0, none⟩), .func (.func 36) #[] #[c0, c1, c2], .func (.func 38) #[] #[]] w fun e w' => e = .returned (.int .i64 (opE X)) ∧ ∃ lay', Sep B w0 w' (dv3 v { L with lay := lay' } (opX X f (fun _ => true)) os) := by
  have hv : Blk w v 76 (devCells L.d L.t X) := h.get (.head _)
  have ht : IsTimer w L.t L.pb L.kb X.T := h.get (.tail _ (.tail _ (.head _)))
  have q1 : w.cell? ⟨v, 1, none⟩ = some (.pointer (some ⟨L.t, 0, none⟩)) := hv.cell 1
  have H := Lib.hid h
  have HX := Lib.hid hX
  have HC := Lib.hid hC
  have HDO := Lib.hid hdo
  obtain ⟨n, hn⟩ : ∃ n, X.ops = n := ⟨_, rfl⟩
  have HN := Lib.hid hn
  rw [hn] at hops
  obtain ⟨E, hE⟩ : ∃ E, opE X = E := ⟨_, rfl⟩
  obtain ⟨Z, hZ⟩ : ∃ Z, opX X f (fun _ => true) = Z := ⟨_, rfl⟩
  have HE := Lib.hid hE
  have HZ := Lib.hid hZ
  rw [hE, hZ]
  clear h hv hX hC hdo hn hE hZ
  obtain ⟨P, hP⟩ : ∃ P, X.T = P := ⟨_, rfl⟩
  have HP := Lib.hid hP
  rw [hP] at ht
  clear hP
  cases P with
  | none =>
    have HPL := Lib.hid (timer_plan_none ht)
    clear ht
    unfold planV at HPL
    go_enter Tryz.func35, Tryz.ntmps35
    go_wp2_with fail
    refine HPL.out.mono ?_
    rintro e w1 ⟨rfl, hb1⟩
    obtain ⟨W2, hW2⟩ : ∃ W2, W2 = w1.alloc (.cells #[.int .i64 0, .bool false, .slice none 0 0] 64) := ⟨_, rfl⟩
    have hs2 : Sep B w0 W2 (dv3 v L X os) := by rw [hW2]; exact (H.out.below hb1).alloc _
    have hv2 : Blk W2 v 76 (devCells L.d L.t X) := hs2.get (.head _)
    have r3 : W2.cell? ⟨v, 3, none⟩ = some (.int .i64 (n : Int)) := by rw [← HN.out]; exact hv2.cell 3
    have f3 := hv2.frozen 3
    have hs3 : Sep B w0 (W2.setCell ⟨v, 3, none⟩ (.int .i64 ((n : Int) + 1))) (dv3 v L { X with ops := X.ops + 1 } os) := by
      have := hs2.setBlk 3 (.int .i64 ((n : Int) + 1))
      rw [← HN.out] at this
      rw [← HN.out]
      exact this
    have hv3 : Blk (W2.setCell ⟨v, 3, none⟩ (.int .i64 ((n : Int) + 1))) v 76 (devCells L.d L.t { X with ops := X.ops + 1 }) := hs3.get (.head _)
    have r1 : (W2.setCell ⟨v, 3, none⟩ (.int .i64 ((n : Int) + 1))).cell? ⟨v, 1, none⟩ = some (.pointer (some ⟨L.t, 0, none⟩)) := hv3.cell 1
    have HTK := Lib.hid (vtick hs3 HX.out.tm)
    rw [show ({ X with ops := X.ops + 1 } : DevD).T = none from HP.out] at HTK
    have hMX : ({ X with ops := X.ops + 1, T := tickP none } : DevD) = midX X := by unfold midX; rw [HP.out]
    have HMX := Lib.hid hMX
    have HW2 := Lib.hid hW2
    rw [hW2] at r3 f3 r1
    clear hs2 hv2 hs3 hv3 hW2 hMX hb1 q1
    go_wp2_with fail
    rw [← HW2.out]
    refine HTK.out.mono ?_
    rintro e w3 ⟨rfl, hs⟩
    have hs' : Sep B w0 w3 (dv3 v L (midX X) os) := by rw [← HMX.out]; exact hs
    have HD := Lib.hid (HDO.out w3 L (midX X) [] rfl rfl hs')
    clear hs hs' r3 f3 r1
    rw [show tickB none = false from rfl]
    go_wp2_with fail
    refine HD.out.mono ?_
    rintro e w4 ⟨rfl, lay', hs⟩
    have HS := Lib.hid hs
    clear hs
    go_wp2_with fail
    go_ret
    have hE : E = 0 := by rw [← HE.out]; unfold opE; rw [HP.out]; rfl
    exact ⟨by rw [hE]; rfl, lay', by rw [← HZ.out, opX_no (by rw [HP.out]; rfl)]; exact HS.out⟩
  | some p =>
    have hp := HX.out.tm p HP.out
    have HOK := Lib.hid hp
    have HPL := Lib.hid (timer_plan_some ht (by have := hp.1.2.1.2; omega))
    obtain ⟨at_, dn, keep⟩ := p
    dsimp only at HPL
    obtain ⟨m, hm⟩ : ∃ m, keep.length = m := ⟨_, rfl⟩
    have HM : Hid (keep.length = m) := hm
    rw [hm] at HPL
    clear ht hp hm
    unfold planV at HPL
    go_enter Tryz.func35, Tryz.ntmps35
    go_wp2_with fail
    refine HPL.out.mono ?_
    rintro e w1 ⟨A, c, rfl, ho, hb1⟩
    obtain ⟨W2, hW2⟩ : ∃ W2, W2 = w1.alloc (.cells #[.int .i64 at_, .bool dn, .slice A m c] 64) := ⟨_, rfl⟩
    have hs1 : Sep B w0 w1 (rowOb 3 1 (.slice A m c) m (ints keep) :: dv3 v L X os) := H.out.add (a := rowOb 3 1 (.slice A m c) m (ints keep)) hb1 (own_base ho (fun _ _ => Nat.zero_le _)) (fun k hk => (ho.lt k hk).1)
    obtain ⟨pb, hpb⟩ : ∃ pb, pb = w1.heap.size := ⟨_, rfl⟩
    have hs2' : Sep B w0 W2 (blkOb pb 64 #[.int .i64 at_, .bool dn, .slice A m c] :: rowOb 3 1 (.slice A m c) m (ints keep) :: dv3 v L X os) := by rw [hW2]; exact hs1.newBlk pb _ _ hpb
    have hs2 : Sep B w0 W2 (dv3 v L X ([blkOb pb 64 #[.int .i64 at_, .bool dn, .slice A m c], rowOb 3 1 (.slice A m c) m (ints keep)] ++ os)) :=
      hs2'.perm ((List.perm_append_comm (l₁ := [_, _]) (l₂ := [_, _, _])).append_right os)
    obtain ⟨ex, hex⟩ : ∃ ex, ex = [blkOb pb 64 #[.int .i64 at_, .bool dn, .slice A m c], rowOb 3 1 (.slice A m c) m (ints keep)] := ⟨_, rfl⟩
    rw [← hex] at hs2
    have HEX := Lib.hid hex
    have hv2 : Blk W2 v 76 (devCells L.d L.t X) := hs2.get (.head _)
    have r3 : W2.cell? ⟨v, 3, none⟩ = some (.int .i64 (n : Int)) := by rw [← HN.out]; exact hv2.cell 3
    have f3 := hv2.frozen 3
    have hs3 : Sep B w0 (W2.setCell ⟨v, 3, none⟩ (.int .i64 ((n : Int) + 1))) (dv3 v L { X with ops := X.ops + 1 } (ex ++ os)) := by
      have := hs2.setBlk 3 (.int .i64 ((n : Int) + 1))
      rw [← HN.out] at this
      rw [← HN.out]
      exact this
    have hv3 : Blk (W2.setCell ⟨v, 3, none⟩ (.int .i64 ((n : Int) + 1))) v 76 (devCells L.d L.t { X with ops := X.ops + 1 }) := hs3.get (.head _)
    have r1 : (W2.setCell ⟨v, 3, none⟩ (.int .i64 ((n : Int) + 1))).cell? ⟨v, 1, none⟩ = some (.pointer (some ⟨L.t, 0, none⟩)) := hv3.cell 1
    have HTK := Lib.hid (vtick hs3 HX.out.tm)
    obtain ⟨tb, htb⟩ : ∃ tb, tickB X.T = tb := ⟨_, rfl⟩
    rw [show ({ X with ops := X.ops + 1 } : DevD).T = X.T from rfl, htb] at HTK
    have hMX : ({ X with ops := X.ops + 1, T := tickP X.T } : DevD) = midX X := rfl
    have HMX := Lib.hid hMX
    have HTB := Lib.hid htb
    have HPB := Lib.hid hpb
    have HW2 := Lib.hid hW2
    rw [hW2] at r3 f3 r1
    clear hs1 hs2' hs2 hv2 hs3 hv3 hW2 hMX hb1 q1 ho hex htb hpb
    go_wp2_with fail
    rw [← HW2.out, ← HPB.out]
    refine HTK.out.mono ?_
    rintro e w3 ⟨rfl, hs⟩
    have hs' : Sep B w0 w3 (dv3 v L (midX X) (ex ++ os)) := hs
    have HS3 := Lib.hid hs'
    clear hs hs' r3 f3 r1
    cases tb with
    | false =>
      have HD := Lib.hid (HDO.out w3 L (midX X) ex rfl rfl HS3.out)
      go_wp2_with fail
      refine HD.out.mono ?_
      rintro e w4 ⟨rfl, lay', hs⟩
      have HS := Lib.hid hs
      clear hs
      go_wp2_with fail
      go_ret
      have hE : E = 0 := by rw [← HE.out]; unfold opE; rw [HTB.out]; rfl
      refine ⟨by rw [hE]; rfl, lay', ?_⟩
      rw [← HZ.out, opX_no HTB.out]
      have := HS.out
      rw [HEX.out] at this
      exact this.sub (.cons_cons _ (.cons_cons _ (.cons_cons _ (.cons _ (.cons _ (List.Sublist.refl _))))))
    | true =>
      have HK : Hid (okPlan at_ keep) := HOK.out.1
      have hex2 : ∀ o, o ∈ ex → CellOb o := by
        rw [HEX.out]
        exact AllCells.cons (cellOb_blk _ _ _) (AllCells.cons (cellOb_row _ _ _ _ _) AllCells.nil)
      have HCE : Hid (AllCells (ex ++ os)) := fun o ho => (List.mem_append.1 ho).elim (hex2 o) (HC.out o)
      have HRD : Hid (∀ W, Kept B w0 (ex ++ os) W → Reads W W.heap.size 1 A m (ints keep)) := fun W hW => by
        have : W.ownsRow 0 3 1 (.slice A m c) m (ints keep) := hW.2 (rowOb 3 1 (.slice A m c) m (ints keep)) (by rw [HEX.out]; exact .tail _ (.head _))
        exact Reads.of_own this
      have HPC : Hid (∀ W os', Sep B w0 W os' → (∀ o, o ∈ ex → o ∈ os') → Blk W pb 64 #[.int .i64 at_, .bool dn, .slice A m c]) := fun W os' hW hin => hW.get (hin _ (by rw [HEX.out]; exact .head _))
      clear hex2
      have hin : ∀ {X : DevD} {L : DLay} o, o ∈ ex → o ∈ dv3 v L X (ex ++ os) := fun o ho => .tail _ (.tail _ (.tail _ (List.mem_append.2 (.inl ho))))
      have HIN : Hid (∀ {X : DevD} {L : DLay} o, o ∈ ex → o ∈ dv3 v L X (ex ++ os)) := hin
      have hpk := HPC.out w3 _ HS3.out hin
      have e0 : w3.cell? ⟨pb, 0, none⟩ = some (.int .i64 at_) := hpk.cell 0
      have e1 : w3.cell? ⟨pb, 1, none⟩ = some (.bool dn) := hpk.cell 1
      have e2 : w3.cell? ⟨pb, 2, none⟩ = some (.slice A m c) := hpk.cell 2
      have HDN := Lib.hid (done_Append at_ dn A m c w3)
      unfold planV at HDN
      clear hin hpk
      go_wp2_with fail
      refine HDN.out.mono ?_
      rintro e w4 ⟨rfl, hb4⟩
      have HS4 := Lib.hid (HS3.out.below hb4)
      clear hb4 e0 e1 e2
      have HD := Lib.hid (HDO.out w4 L (midX X) ex rfl rfl HS4.out)
      go_wp2_with fail
      refine HD.out.mono ?_
      rintro e w5 ⟨rfl, lay', hs⟩
      have HS5 := Lib.hid hs
      clear hs
      have hpk := HPC.out w5 _ HS5.out HIN.out
      have e0 : w5.cell? ⟨pb, 0, none⟩ = some (.int .i64 at_) := hpk.cell 0
      have e1 : w5.cell? ⟨pb, 1, none⟩ = some (.bool dn) := hpk.cell 1
      have e2 : w5.cell? ⟨pb, 2, none⟩ = some (.slice A m c) := hpk.cell 2
      have HCR := Lib.hid (sep_vcrash HS5.out HCE.out HX.out.n32 at_ dn A m c keep HRD.out (by have := HK.out.2.1.1; have := HM.out; omega) (by have := HK.out.2.1.2; have := HM.out; omega) HK.out.2.2)
      unfold planV at HCR
      clear hpk
      go_wp2_with fail
      refine HCR.out.mono ?_
      rintro e w6 ⟨rfl, hs⟩
      have HS := Lib.hid hs
      clear hs e0 e1 e2
      go_wp2_with fail
      go_ret
      have hE : E = 13 := by rw [← HE.out]; unfold opE; rw [HTB.out]; rfl
      refine ⟨by rw [hE]; rfl, lay', ?_⟩
      rw [← HZ.out, opX_yes HTB.out, HP.out]
      dsimp only [keepOf, dnOf, id]
      have := HS.out
      rw [HEX.out] at this
      exact this.sub (.cons_cons _ (.cons_cons _ (.cons_cons _ (.cons _ (.cons _ (List.Sublist.refl _))))))
set_option maxHeartbeats 400000 in
theorem done_Sync (at_ : Int) (dn : Bool) (A : Option Addr) (m c : Nat) (w : World) :
    Calls Tryz.prog 110 #[planV at_ dn A m c] w fun e w' => e = .returned (.bool false) ∧ Below w.heap.size w w' := by
  unfold planV
  go_enter Tryz.func110, Tryz.ntmps110
  go_wp2_with fail
  go_ret
  exact ⟨rfl, (Below.refl _ _).alloc (Nat.le_refl _) _⟩
set_option maxRecDepth 100000 in
set_option maxHeartbeats 4000000 in
theorem op_Sync (h : Sep B w0 w (dv3 v L X os)) (hX : X.Ok) (hops : X.ops < 4611686018427387904) (hC : AllCells os) (f : (Nat → SlotD) → (Nat → SlotD)) (c0 : Value) (c1 : Value) (hdo : Does B w0 v os f X.n L.d 108 #[c0, c1]) :
    Calls Tryz.prog 35 #[.pointer (some ⟨v, 0, none⟩), .func (.func 108) #[] #[c0, c1], .func (.func 110) #[] #[]] w fun e w' => e = .returned (.int .i64 (opE X)) ∧ ∃ lay', Sep B w0 w' (dv3 v { L with lay := lay' } (opX X f (fun _ => false)) os) := by
  have hv : Blk w v 76 (devCells L.d L.t X) := h.get (.head _)
  have ht : IsTimer w L.t L.pb L.kb X.T := h.get (.tail _ (.tail _ (.head _)))
  have q1 : w.cell? ⟨v, 1, none⟩ = some (.pointer (some ⟨L.t, 0, none⟩)) := hv.cell 1
  have H := Lib.hid h
  have HX := Lib.hid hX
  have HC := Lib.hid hC
  have HDO := Lib.hid hdo
  obtain ⟨n, hn⟩ : ∃ n, X.ops = n := ⟨_, rfl⟩
  have HN := Lib.hid hn
  rw [hn] at hops
  obtain ⟨E, hE⟩ : ∃ E, opE X = E := ⟨_, rfl⟩
  obtain ⟨Z, hZ⟩ : ∃ Z, opX X f (fun _ => false) = Z := ⟨_, rfl⟩
  have HE := Lib.hid hE
  have HZ := Lib.hid hZ
  rw [hE, hZ]
  clear h hv hX hC hdo hn hE hZ
  obtain ⟨P, hP⟩ : ∃ P, X.T = P := ⟨_, rfl⟩
  have HP := Lib.hid hP
  rw [hP] at ht
  clear hP
  cases P with
  | none =>
    have HPL := Lib.hid (timer_plan_none ht)
    clear ht
    unfold planV at HPL
    go_enter Tryz.func35, Tryz.ntmps35
    go_wp2_with fail
    refine HPL.out.mono ?_
    rintro e w1 ⟨rfl, hb1⟩
    obtain ⟨W2, hW2⟩ : ∃ W2, W2 = w1.alloc (.cells #[.int .i64 0, .bool false, .slice none 0 0] 64) := ⟨_, rfl⟩
    have hs2 : Sep B w0 W2 (dv3 v L X os) := by rw [hW2]; exact (H.out.below hb1).alloc _
    have hv2 : Blk W2 v 76 (devCells L.d L.t X) := hs2.get (.head _)
    have r3 : W2.cell? ⟨v, 3, none⟩ = some (.int .i64 (n : Int)) := by rw [← HN.out]; exact hv2.cell 3
    have f3 := hv2.frozen 3
    have hs3 : Sep B w0 (W2.setCell ⟨v, 3, none⟩ (.int .i64 ((n : Int) + 1))) (dv3 v L { X with ops := X.ops + 1 } os) := by
      have := hs2.setBlk 3 (.int .i64 ((n : Int) + 1))
      rw [← HN.out] at this
      rw [← HN.out]
      exact this
    have hv3 : Blk (W2.setCell ⟨v, 3, none⟩ (.int .i64 ((n : Int) + 1))) v 76 (devCells L.d L.t { X with ops := X.ops + 1 }) := hs3.get (.head _)
    have r1 : (W2.setCell ⟨v, 3, none⟩ (.int .i64 ((n : Int) + 1))).cell? ⟨v, 1, none⟩ = some (.pointer (some ⟨L.t, 0, none⟩)) := hv3.cell 1
    have HTK := Lib.hid (vtick hs3 HX.out.tm)
    rw [show ({ X with ops := X.ops + 1 } : DevD).T = none from HP.out] at HTK
    have hMX : ({ X with ops := X.ops + 1, T := tickP none } : DevD) = midX X := by unfold midX; rw [HP.out]
    have HMX := Lib.hid hMX
    have HW2 := Lib.hid hW2
    rw [hW2] at r3 f3 r1
    clear hs2 hv2 hs3 hv3 hW2 hMX hb1 q1
    go_wp2_with fail
    rw [← HW2.out]
    refine HTK.out.mono ?_
    rintro e w3 ⟨rfl, hs⟩
    have hs' : Sep B w0 w3 (dv3 v L (midX X) os) := by rw [← HMX.out]; exact hs
    have HD := Lib.hid (HDO.out w3 L (midX X) [] rfl rfl hs')
    clear hs hs' r3 f3 r1
    rw [show tickB none = false from rfl]
    go_wp2_with fail
    refine HD.out.mono ?_
    rintro e w4 ⟨rfl, lay', hs⟩
    have HS := Lib.hid hs
    clear hs
    go_wp2_with fail
    go_ret
    have hE : E = 0 := by rw [← HE.out]; unfold opE; rw [HP.out]; rfl
    exact ⟨by rw [hE]; rfl, lay', by rw [← HZ.out, opX_no (by rw [HP.out]; rfl)]; exact HS.out⟩
  | some p =>
    have hp := HX.out.tm p HP.out
    have HOK := Lib.hid hp
    have HPL := Lib.hid (timer_plan_some ht (by have := hp.1.2.1.2; omega))
    obtain ⟨at_, dn, keep⟩ := p
    dsimp only at HPL
    obtain ⟨m, hm⟩ : ∃ m, keep.length = m := ⟨_, rfl⟩
    have HM : Hid (keep.length = m) := hm
    rw [hm] at HPL
    clear ht hp hm
    unfold planV at HPL
    go_enter Tryz.func35, Tryz.ntmps35
    go_wp2_with fail
    refine HPL.out.mono ?_
    rintro e w1 ⟨A, c, rfl, ho, hb1⟩
    obtain ⟨W2, hW2⟩ : ∃ W2, W2 = w1.alloc (.cells #[.int .i64 at_, .bool dn, .slice A m c] 64) := ⟨_, rfl⟩
    have hs1 : Sep B w0 w1 (rowOb 3 1 (.slice A m c) m (ints keep) :: dv3 v L X os) := H.out.add (a := rowOb 3 1 (.slice A m c) m (ints keep)) hb1 (own_base ho (fun _ _ => Nat.zero_le _)) (fun k hk => (ho.lt k hk).1)
    obtain ⟨pb, hpb⟩ : ∃ pb, pb = w1.heap.size := ⟨_, rfl⟩
    have hs2' : Sep B w0 W2 (blkOb pb 64 #[.int .i64 at_, .bool dn, .slice A m c] :: rowOb 3 1 (.slice A m c) m (ints keep) :: dv3 v L X os) := by rw [hW2]; exact hs1.newBlk pb _ _ hpb
    have hs2 : Sep B w0 W2 (dv3 v L X ([blkOb pb 64 #[.int .i64 at_, .bool dn, .slice A m c], rowOb 3 1 (.slice A m c) m (ints keep)] ++ os)) :=
      hs2'.perm ((List.perm_append_comm (l₁ := [_, _]) (l₂ := [_, _, _])).append_right os)
    obtain ⟨ex, hex⟩ : ∃ ex, ex = [blkOb pb 64 #[.int .i64 at_, .bool dn, .slice A m c], rowOb 3 1 (.slice A m c) m (ints keep)] := ⟨_, rfl⟩
    rw [← hex] at hs2
    have HEX := Lib.hid hex
    have hv2 : Blk W2 v 76 (devCells L.d L.t X) := hs2.get (.head _)
    have r3 : W2.cell? ⟨v, 3, none⟩ = some (.int .i64 (n : Int)) := by rw [← HN.out]; exact hv2.cell 3
    have f3 := hv2.frozen 3
    have hs3 : Sep B w0 (W2.setCell ⟨v, 3, none⟩ (.int .i64 ((n : Int) + 1))) (dv3 v L { X with ops := X.ops + 1 } (ex ++ os)) := by
      have := hs2.setBlk 3 (.int .i64 ((n : Int) + 1))
      rw [← HN.out] at this
      rw [← HN.out]
      exact this
    have hv3 : Blk (W2.setCell ⟨v, 3, none⟩ (.int .i64 ((n : Int) + 1))) v 76 (devCells L.d L.t { X with ops := X.ops + 1 }) := hs3.get (.head _)
    have r1 : (W2.setCell ⟨v, 3, none⟩ (.int .i64 ((n : Int) + 1))).cell? ⟨v, 1, none⟩ = some (.pointer (some ⟨L.t, 0, none⟩)) := hv3.cell 1
    have HTK := Lib.hid (vtick hs3 HX.out.tm)
    obtain ⟨tb, htb⟩ : ∃ tb, tickB X.T = tb := ⟨_, rfl⟩
    rw [show ({ X with ops := X.ops + 1 } : DevD).T = X.T from rfl, htb] at HTK
    have hMX : ({ X with ops := X.ops + 1, T := tickP X.T } : DevD) = midX X := rfl
    have HMX := Lib.hid hMX
    have HTB := Lib.hid htb
    have HPB := Lib.hid hpb
    have HW2 := Lib.hid hW2
    rw [hW2] at r3 f3 r1
    clear hs1 hs2' hs2 hv2 hs3 hv3 hW2 hMX hb1 q1 ho hex htb hpb
    go_wp2_with fail
    rw [← HW2.out, ← HPB.out]
    refine HTK.out.mono ?_
    rintro e w3 ⟨rfl, hs⟩
    have hs' : Sep B w0 w3 (dv3 v L (midX X) (ex ++ os)) := hs
    have HS3 := Lib.hid hs'
    clear hs hs' r3 f3 r1
    cases tb with
    | false =>
      have HD := Lib.hid (HDO.out w3 L (midX X) ex rfl rfl HS3.out)
      go_wp2_with fail
      refine HD.out.mono ?_
      rintro e w4 ⟨rfl, lay', hs⟩
      have HS := Lib.hid hs
      clear hs
      go_wp2_with fail
      go_ret
      have hE : E = 0 := by rw [← HE.out]; unfold opE; rw [HTB.out]; rfl
      refine ⟨by rw [hE]; rfl, lay', ?_⟩
      rw [← HZ.out, opX_no HTB.out]
      have := HS.out
      rw [HEX.out] at this
      exact this.sub (.cons_cons _ (.cons_cons _ (.cons_cons _ (.cons _ (.cons _ (List.Sublist.refl _))))))
    | true =>
      have HK : Hid (okPlan at_ keep) := HOK.out.1
      have hex2 : ∀ o, o ∈ ex → CellOb o := by
        rw [HEX.out]
        exact AllCells.cons (cellOb_blk _ _ _) (AllCells.cons (cellOb_row _ _ _ _ _) AllCells.nil)
      have HCE : Hid (AllCells (ex ++ os)) := fun o ho => (List.mem_append.1 ho).elim (hex2 o) (HC.out o)
      have HRD : Hid (∀ W, Kept B w0 (ex ++ os) W → Reads W W.heap.size 1 A m (ints keep)) := fun W hW => by
        have : W.ownsRow 0 3 1 (.slice A m c) m (ints keep) := hW.2 (rowOb 3 1 (.slice A m c) m (ints keep)) (by rw [HEX.out]; exact .tail _ (.head _))
        exact Reads.of_own this
      have HPC : Hid (∀ W os', Sep B w0 W os' → (∀ o, o ∈ ex → o ∈ os') → Blk W pb 64 #[.int .i64 at_, .bool dn, .slice A m c]) := fun W os' hW hin => hW.get (hin _ (by rw [HEX.out]; exact .head _))
      clear hex2
      have hin : ∀ {X : DevD} {L : DLay} o, o ∈ ex → o ∈ dv3 v L X (ex ++ os) := fun o ho => .tail _ (.tail _ (.tail _ (List.mem_append.2 (.inl ho))))
      have HIN : Hid (∀ {X : DevD} {L : DLay} o, o ∈ ex → o ∈ dv3 v L X (ex ++ os)) := hin
      have hpk := HPC.out w3 _ HS3.out hin
      have e0 : w3.cell? ⟨pb, 0, none⟩ = some (.int .i64 at_) := hpk.cell 0
      have e1 : w3.cell? ⟨pb, 1, none⟩ = some (.bool dn) := hpk.cell 1
      have e2 : w3.cell? ⟨pb, 2, none⟩ = some (.slice A m c) := hpk.cell 2
      have HDN := Lib.hid (done_Sync at_ dn A m c w3)
      unfold planV at HDN
      clear hin hpk
      go_wp2_with fail
      refine HDN.out.mono ?_
      rintro e w4 ⟨rfl, hb4⟩
      have HS4 := Lib.hid (HS3.out.below hb4)
      clear hb4 e0 e1 e2
      have hpk := HPC.out w4 _ HS4.out HIN.out
      have e0 : w4.cell? ⟨pb, 0, none⟩ = some (.int .i64 at_) := hpk.cell 0
      have e1 : w4.cell? ⟨pb, 1, none⟩ = some (.bool dn) := hpk.cell 1
      have e2 : w4.cell? ⟨pb, 2, none⟩ = some (.slice A m c) := hpk.cell 2
      have HCR := Lib.hid (sep_vcrash HS4.out HCE.out HX.out.n32 at_ dn A m c keep HRD.out (by have := HK.out.2.1.1; have := HM.out; omega) (by have := HK.out.2.1.2; have := HM.out; omega) HK.out.2.2)
      unfold planV at HCR
      clear hpk
      go_wp2_with fail
      refine HCR.out.mono ?_
      rintro e w5 ⟨rfl, hs⟩
      have HS := Lib.hid hs
      clear hs e0 e1 e2
      go_wp2_with fail
      go_ret
      have hE : E = 13 := by rw [← HE.out]; unfold opE; rw [HTB.out]; rfl
      refine ⟨by rw [hE]; rfl, L.lay, ?_⟩
      rw [← HZ.out, opX_yes HTB.out, HP.out]
      dsimp only [keepOf, dnOf, id]
      have := HS.out
      rw [HEX.out] at this
      exact this.sub (.cons_cons _ (.cons_cons _ (.cons_cons _ (.cons _ (.cons _ (List.Sublist.refl _))))))
set_option maxHeartbeats 400000 in
theorem done_Erase (at_ : Int) (dn : Bool) (A : Option Addr) (m c : Nat) (w : World) :
    Calls Tryz.prog 78 #[planV at_ dn A m c] w fun e w' => e = .returned (.bool dn) ∧ Below w.heap.size w w' := by
  unfold planV
  go_enter Tryz.func78, Tryz.ntmps78
  go_wp2_with fail
  go_ret
  exact ⟨rfl, (Below.refl _ _).alloc (Nat.le_refl _) _⟩
set_option maxRecDepth 100000 in
set_option maxHeartbeats 4000000 in
theorem op_Erase (h : Sep B w0 w (dv3 v L X os)) (hX : X.Ok) (hops : X.ops < 4611686018427387904) (hC : AllCells os) (f : (Nat → SlotD) → (Nat → SlotD)) (c0 : Value) (c1 : Value) (hdo : Does B w0 v os f X.n L.d 76 #[c0, c1]) :
    Calls Tryz.prog 35 #[.pointer (some ⟨v, 0, none⟩), .func (.func 76) #[] #[c0, c1], .func (.func 78) #[] #[]] w fun e w' => e = .returned (.int .i64 (opE X)) ∧ ∃ lay', Sep B w0 w' (dv3 v { L with lay := lay' } (opX X f id) os) := by
  have hv : Blk w v 76 (devCells L.d L.t X) := h.get (.head _)
  have ht : IsTimer w L.t L.pb L.kb X.T := h.get (.tail _ (.tail _ (.head _)))
  have q1 : w.cell? ⟨v, 1, none⟩ = some (.pointer (some ⟨L.t, 0, none⟩)) := hv.cell 1
  have H := Lib.hid h
  have HX := Lib.hid hX
  have HC := Lib.hid hC
  have HDO := Lib.hid hdo
  obtain ⟨n, hn⟩ : ∃ n, X.ops = n := ⟨_, rfl⟩
  have HN := Lib.hid hn
  rw [hn] at hops
  obtain ⟨E, hE⟩ : ∃ E, opE X = E := ⟨_, rfl⟩
  obtain ⟨Z, hZ⟩ : ∃ Z, opX X f id = Z := ⟨_, rfl⟩
  have HE := Lib.hid hE
  have HZ := Lib.hid hZ
  rw [hE, hZ]
  clear h hv hX hC hdo hn hE hZ
  obtain ⟨P, hP⟩ : ∃ P, X.T = P := ⟨_, rfl⟩
  have HP := Lib.hid hP
  rw [hP] at ht
  clear hP
  cases P with
  | none =>
    have HPL := Lib.hid (timer_plan_none ht)
    clear ht
    unfold planV at HPL
    go_enter Tryz.func35, Tryz.ntmps35
    go_wp2_with fail
    refine HPL.out.mono ?_
    rintro e w1 ⟨rfl, hb1⟩
    obtain ⟨W2, hW2⟩ : ∃ W2, W2 = w1.alloc (.cells #[.int .i64 0, .bool false, .slice none 0 0] 64) := ⟨_, rfl⟩
    have hs2 : Sep B w0 W2 (dv3 v L X os) := by rw [hW2]; exact (H.out.below hb1).alloc _
    have hv2 : Blk W2 v 76 (devCells L.d L.t X) := hs2.get (.head _)
    have r3 : W2.cell? ⟨v, 3, none⟩ = some (.int .i64 (n : Int)) := by rw [← HN.out]; exact hv2.cell 3
    have f3 := hv2.frozen 3
    have hs3 : Sep B w0 (W2.setCell ⟨v, 3, none⟩ (.int .i64 ((n : Int) + 1))) (dv3 v L { X with ops := X.ops + 1 } os) := by
      have := hs2.setBlk 3 (.int .i64 ((n : Int) + 1))
      rw [← HN.out] at this
      rw [← HN.out]
      exact this
    have hv3 : Blk (W2.setCell ⟨v, 3, none⟩ (.int .i64 ((n : Int) + 1))) v 76 (devCells L.d L.t { X with ops := X.ops + 1 }) := hs3.get (.head _)
    have r1 : (W2.setCell ⟨v, 3, none⟩ (.int .i64 ((n : Int) + 1))).cell? ⟨v, 1, none⟩ = some (.pointer (some ⟨L.t, 0, none⟩)) := hv3.cell 1
    have HTK := Lib.hid (vtick hs3 HX.out.tm)
    rw [show ({ X with ops := X.ops + 1 } : DevD).T = none from HP.out] at HTK
    have hMX : ({ X with ops := X.ops + 1, T := tickP none } : DevD) = midX X := by unfold midX; rw [HP.out]
    have HMX := Lib.hid hMX
    have HW2 := Lib.hid hW2
    rw [hW2] at r3 f3 r1
    clear hs2 hv2 hs3 hv3 hW2 hMX hb1 q1
    go_wp2_with fail
    rw [← HW2.out]
    refine HTK.out.mono ?_
    rintro e w3 ⟨rfl, hs⟩
    have hs' : Sep B w0 w3 (dv3 v L (midX X) os) := by rw [← HMX.out]; exact hs
    have HD := Lib.hid (HDO.out w3 L (midX X) [] rfl rfl hs')
    clear hs hs' r3 f3 r1
    rw [show tickB none = false from rfl]
    go_wp2_with fail
    refine HD.out.mono ?_
    rintro e w4 ⟨rfl, lay', hs⟩
    have HS := Lib.hid hs
    clear hs
    go_wp2_with fail
    go_ret
    have hE : E = 0 := by rw [← HE.out]; unfold opE; rw [HP.out]; rfl
    exact ⟨by rw [hE]; rfl, lay', by rw [← HZ.out, opX_no (by rw [HP.out]; rfl)]; exact HS.out⟩
  | some p =>
    have hp := HX.out.tm p HP.out
    have HOK := Lib.hid hp
    have HPL := Lib.hid (timer_plan_some ht (by have := hp.1.2.1.2; omega))
    obtain ⟨at_, dn, keep⟩ := p
    dsimp only at HPL
    obtain ⟨m, hm⟩ : ∃ m, keep.length = m := ⟨_, rfl⟩
    have HM : Hid (keep.length = m) := hm
    rw [hm] at HPL
    clear ht hp hm
    unfold planV at HPL
    go_enter Tryz.func35, Tryz.ntmps35
    go_wp2_with fail
    refine HPL.out.mono ?_
    rintro e w1 ⟨A, c, rfl, ho, hb1⟩
    obtain ⟨W2, hW2⟩ : ∃ W2, W2 = w1.alloc (.cells #[.int .i64 at_, .bool dn, .slice A m c] 64) := ⟨_, rfl⟩
    have hs1 : Sep B w0 w1 (rowOb 3 1 (.slice A m c) m (ints keep) :: dv3 v L X os) := H.out.add (a := rowOb 3 1 (.slice A m c) m (ints keep)) hb1 (own_base ho (fun _ _ => Nat.zero_le _)) (fun k hk => (ho.lt k hk).1)
    obtain ⟨pb, hpb⟩ : ∃ pb, pb = w1.heap.size := ⟨_, rfl⟩
    have hs2' : Sep B w0 W2 (blkOb pb 64 #[.int .i64 at_, .bool dn, .slice A m c] :: rowOb 3 1 (.slice A m c) m (ints keep) :: dv3 v L X os) := by rw [hW2]; exact hs1.newBlk pb _ _ hpb
    have hs2 : Sep B w0 W2 (dv3 v L X ([blkOb pb 64 #[.int .i64 at_, .bool dn, .slice A m c], rowOb 3 1 (.slice A m c) m (ints keep)] ++ os)) :=
      hs2'.perm ((List.perm_append_comm (l₁ := [_, _]) (l₂ := [_, _, _])).append_right os)
    obtain ⟨ex, hex⟩ : ∃ ex, ex = [blkOb pb 64 #[.int .i64 at_, .bool dn, .slice A m c], rowOb 3 1 (.slice A m c) m (ints keep)] := ⟨_, rfl⟩
    rw [← hex] at hs2
    have HEX := Lib.hid hex
    have hv2 : Blk W2 v 76 (devCells L.d L.t X) := hs2.get (.head _)
    have r3 : W2.cell? ⟨v, 3, none⟩ = some (.int .i64 (n : Int)) := by rw [← HN.out]; exact hv2.cell 3
    have f3 := hv2.frozen 3
    have hs3 : Sep B w0 (W2.setCell ⟨v, 3, none⟩ (.int .i64 ((n : Int) + 1))) (dv3 v L { X with ops := X.ops + 1 } (ex ++ os)) := by
      have := hs2.setBlk 3 (.int .i64 ((n : Int) + 1))
      rw [← HN.out] at this
      rw [← HN.out]
      exact this
    have hv3 : Blk (W2.setCell ⟨v, 3, none⟩ (.int .i64 ((n : Int) + 1))) v 76 (devCells L.d L.t { X with ops := X.ops + 1 }) := hs3.get (.head _)
    have r1 : (W2.setCell ⟨v, 3, none⟩ (.int .i64 ((n : Int) + 1))).cell? ⟨v, 1, none⟩ = some (.pointer (some ⟨L.t, 0, none⟩)) := hv3.cell 1
    have HTK := Lib.hid (vtick hs3 HX.out.tm)
    obtain ⟨tb, htb⟩ : ∃ tb, tickB X.T = tb := ⟨_, rfl⟩
    rw [show ({ X with ops := X.ops + 1 } : DevD).T = X.T from rfl, htb] at HTK
    have hMX : ({ X with ops := X.ops + 1, T := tickP X.T } : DevD) = midX X := rfl
    have HMX := Lib.hid hMX
    have HTB := Lib.hid htb
    have HPB := Lib.hid hpb
    have HW2 := Lib.hid hW2
    rw [hW2] at r3 f3 r1
    clear hs1 hs2' hs2 hv2 hs3 hv3 hW2 hMX hb1 q1 ho hex htb hpb
    go_wp2_with fail
    rw [← HW2.out, ← HPB.out]
    refine HTK.out.mono ?_
    rintro e w3 ⟨rfl, hs⟩
    have hs' : Sep B w0 w3 (dv3 v L (midX X) (ex ++ os)) := hs
    have HS3 := Lib.hid hs'
    clear hs hs' r3 f3 r1
    cases tb with
    | false =>
      have HD := Lib.hid (HDO.out w3 L (midX X) ex rfl rfl HS3.out)
      go_wp2_with fail
      refine HD.out.mono ?_
      rintro e w4 ⟨rfl, lay', hs⟩
      have HS := Lib.hid hs
      clear hs
      go_wp2_with fail
      go_ret
      have hE : E = 0 := by rw [← HE.out]; unfold opE; rw [HTB.out]; rfl
      refine ⟨by rw [hE]; rfl, lay', ?_⟩
      rw [← HZ.out, opX_no HTB.out]
      have := HS.out
      rw [HEX.out] at this
      exact this.sub (.cons_cons _ (.cons_cons _ (.cons_cons _ (.cons _ (.cons _ (List.Sublist.refl _))))))
    | true =>
      have HK : Hid (okPlan at_ keep) := HOK.out.1
      have hex2 : ∀ o, o ∈ ex → CellOb o := by
        rw [HEX.out]
        exact AllCells.cons (cellOb_blk _ _ _) (AllCells.cons (cellOb_row _ _ _ _ _) AllCells.nil)
      have HCE : Hid (AllCells (ex ++ os)) := fun o ho => (List.mem_append.1 ho).elim (hex2 o) (HC.out o)
      have HRD : Hid (∀ W, Kept B w0 (ex ++ os) W → Reads W W.heap.size 1 A m (ints keep)) := fun W hW => by
        have : W.ownsRow 0 3 1 (.slice A m c) m (ints keep) := hW.2 (rowOb 3 1 (.slice A m c) m (ints keep)) (by rw [HEX.out]; exact .tail _ (.head _))
        exact Reads.of_own this
      have HPC : Hid (∀ W os', Sep B w0 W os' → (∀ o, o ∈ ex → o ∈ os') → Blk W pb 64 #[.int .i64 at_, .bool dn, .slice A m c]) := fun W os' hW hin => hW.get (hin _ (by rw [HEX.out]; exact .head _))
      clear hex2
      have hin : ∀ {X : DevD} {L : DLay} o, o ∈ ex → o ∈ dv3 v L X (ex ++ os) := fun o ho => .tail _ (.tail _ (.tail _ (List.mem_append.2 (.inl ho))))
      have HIN : Hid (∀ {X : DevD} {L : DLay} o, o ∈ ex → o ∈ dv3 v L X (ex ++ os)) := hin
      have hpk := HPC.out w3 _ HS3.out hin
      have e0 : w3.cell? ⟨pb, 0, none⟩ = some (.int .i64 at_) := hpk.cell 0
      have e1 : w3.cell? ⟨pb, 1, none⟩ = some (.bool dn) := hpk.cell 1
      have e2 : w3.cell? ⟨pb, 2, none⟩ = some (.slice A m c) := hpk.cell 2
      have HDN := Lib.hid (done_Erase at_ dn A m c w3)
      unfold planV at HDN
      clear hin hpk
      go_wp2_with fail
      refine HDN.out.mono ?_
      rintro e w4 ⟨rfl, hb4⟩
      have HS4 := Lib.hid (HS3.out.below hb4)
      clear hb4 e0 e1 e2
      cases dn with
      | true =>
        have HD := Lib.hid (HDO.out w4 L (midX X) ex rfl rfl HS4.out)
        go_wp2_with fail
        refine HD.out.mono ?_
        rintro e w5 ⟨rfl, lay', hs⟩
        have HS5 := Lib.hid hs
        clear hs
        have hpk := HPC.out w5 _ HS5.out HIN.out
        have e0 : w5.cell? ⟨pb, 0, none⟩ = some (.int .i64 at_) := hpk.cell 0
        have e1 : w5.cell? ⟨pb, 1, none⟩ = some (.bool true) := hpk.cell 1
        have e2 : w5.cell? ⟨pb, 2, none⟩ = some (.slice A m c) := hpk.cell 2
        have HCR := Lib.hid (sep_vcrash HS5.out HCE.out HX.out.n32 at_ true A m c keep HRD.out (by have := HK.out.2.1.1; have := HM.out; omega) (by have := HK.out.2.1.2; have := HM.out; omega) HK.out.2.2)
        unfold planV at HCR
        clear hpk
        go_wp2_with fail
        refine HCR.out.mono ?_
        rintro e w6 ⟨rfl, hs⟩
        have HS := Lib.hid hs
        clear hs e0 e1 e2
        go_wp2_with fail
        go_ret
        have hE : E = 13 := by rw [← HE.out]; unfold opE; rw [HTB.out]; rfl
        refine ⟨by rw [hE]; rfl, lay', ?_⟩
        rw [← HZ.out, opX_yes HTB.out, HP.out]
        dsimp only [keepOf, dnOf, id]
        have := HS.out
        rw [HEX.out] at this
        exact this.sub (.cons_cons _ (.cons_cons _ (.cons_cons _ (.cons _ (.cons _ (List.Sublist.refl _))))))
      | false =>
        have hpk := HPC.out w4 _ HS4.out HIN.out
        have e0 : w4.cell? ⟨pb, 0, none⟩ = some (.int .i64 at_) := hpk.cell 0
        have e1 : w4.cell? ⟨pb, 1, none⟩ = some (.bool false) := hpk.cell 1
        have e2 : w4.cell? ⟨pb, 2, none⟩ = some (.slice A m c) := hpk.cell 2
        have HCR := Lib.hid (sep_vcrash HS4.out HCE.out HX.out.n32 at_ false A m c keep HRD.out (by have := HK.out.2.1.1; have := HM.out; omega) (by have := HK.out.2.1.2; have := HM.out; omega) HK.out.2.2)
        unfold planV at HCR
        clear hpk
        go_wp2_with fail
        refine HCR.out.mono ?_
        rintro e w5 ⟨rfl, hs⟩
        have HS := Lib.hid hs
        clear hs e0 e1 e2
        go_wp2_with fail
        go_ret
        have hE : E = 13 := by rw [← HE.out]; unfold opE; rw [HTB.out]; rfl
        refine ⟨by rw [hE]; rfl, L.lay, ?_⟩
        rw [← HZ.out, opX_yes HTB.out, HP.out]
        dsimp only [keepOf, dnOf, id]
        have := HS.out
        rw [HEX.out] at this
        exact this.sub (.cons_cons _ (.cons_cons _ (.cons_cons _ (.cons _ (.cons _ (List.Sublist.refl _))))))
end
end Go.Proofs.YtnopljanpjmbgaaGreat
namespace Go.Proofs.YtnopljanpjmbgaaGreat
open Go.RowKit Go.Shelf
set_option linter.unusedVariables false
def appVE (X : DevD) (i : Int) (b : List (BitVec 8)) : Int := if chkE X i = 0 then (if (X.D i.toNat).bytes.length + b.length ≤ (X.D i.toNat).size then opE X else 4) else chkE X i
def appVX (X : DevD) (i : Int) (b : List (BitVec 8)) : DevD := if chkE X i = 0 then (if (X.D i.toNat).bytes.length + b.length ≤ (X.D i.toNat).size then opX X (fun D => appD D i.toNat b) (fun _ => true) else X) else X
def oneVE (X : DevD) (i : Int) : Int := if chkE X i = 0 then opE X else chkE X i
def SyncVX (X : DevD) (i : Int) : DevD := if chkE X i = 0 then opX X (fun D => syncD D i.toNat) (fun _ => false) else X
def EraseVX (X : DevD) (i : Int) : DevD := if chkE X i = 0 then opX X (fun D => eraseD D i.toNat) id else X
section
variable {B : Nat} {w0 w w' : World} {os : List Ob} {v : Nat} {L : DLay} {X : DevD}
set_option maxRecDepth 100000 in
set_option maxHeartbeats 1000000 in
theorem does_Sync (n d s bd bs : Nat) (hs : s < n + 2) :
    Does B w0 v ([blkOb bs 3 #[.int .i64 (s : Int)], blkOb bd 24 #[.pointer (some ⟨v, 0, none⟩)]] ++ os) (fun D => syncD D s) n d 108 #[.pointer (some ⟨bd, 0, none⟩), .pointer (some ⟨bs, 0, none⟩)] := by
  rintro W L' Y ex rfl rfl h
  have k1 : Blk W bs 3 #[.int .i64 (s : Int)] := h.get (.tail _ (.tail _ (.tail _ (List.mem_append.2 (.inr (.head _))))))
  have k2 : Blk W bd 24 #[.pointer (some ⟨v, 0, none⟩)] := h.get (.tail _ (.tail _ (.tail _ (List.mem_append.2 (.inr (.tail _ (.head _)))))))
  have k3 : Blk W v 76 (devCells L'.d L'.t Y) := h.get (.head _)
  have q1 : W.cell? ⟨bs, 0, none⟩ = some (.int .i64 (s : Int)) := k1.cell 0
  have q2 : W.cell? ⟨bd, 0, none⟩ = some (.pointer (some ⟨v, 0, none⟩)) := k2.cell 0
  have q3 : W.cell? ⟨v, 0, none⟩ = some (.pointer (some ⟨L'.d, 0, none⟩)) := k3.cell 0
  obtain ⟨W2, hW2⟩ : ∃ W2, W2 = W.drew := ⟨_, rfl⟩
  have H := Lib.hid h
  have HD : Hid (Sep B w0 W2 (diskOb L'.d L'.rb (Y.n + 2) L'.lay Y.D :: blkOb v 76 (devCells L'.d L'.t Y) :: tmOb L'.t L'.pb L'.kb Y.T :: (ex ++ ([blkOb bs 3 #[.int .i64 (s : Int)], blkOb bd 24 #[.pointer (some ⟨v, 0, none⟩)]] ++ os)))) := by
    rw [hW2]
    exact h.drew.perm (.swap _ _ _)
  have HC := Lib.hid (sep_dsync HD.out (by omega) s (by omega))
  clear h k1 k2 k3
  go_enter Tryz.func108, Tryz.ntmps108
  go_wp2_with fail
  go_still_tail 6, (by kernel_rfl)
  change wpList _ _ _ _ _ W.drew
  rw [← hW2]
  clear hW2 q1 q2 q3
  go_wp2_with fail
  refine HC.out.mono ?_
  rintro e w3 ⟨rfl, lay', hs⟩
  have HS := Lib.hid hs
  clear hs
  go_wp2_with fail
  go_end0
  exact ⟨rfl, lay', HS.out.perm (.swap _ _ _)⟩
set_option maxRecDepth 100000 in
set_option maxHeartbeats 2000000 in
theorem sep_vsync (h : Sep B w0 w (devOb v L X :: os)) (hC : AllCells os) (hops : X.ops < 4611686018427387904) (i : Int) :
    Calls Tryz.prog 65 #[.pointer (some ⟨v, 0, none⟩), .int .i64 i] w fun e w' => e = .returned (.int .i64 (oneVE X i)) ∧ ∃ L', Sep B w0 w' (devOb v L' (SyncVX X i) :: os) := by
  have hX := h.dev.ok
  obtain ⟨W1, hW1⟩ : ∃ W1, W1 = (w.alloc (.cells #[.pointer (some ⟨v, 0, none⟩)] 24)).alloc (.cells #[.int .i64 i] 3) := ⟨_, rfl⟩
  have hs1 : Sep B w0 W1 (blkOb (w.heap.size + 1) 3 #[.int .i64 i] :: blkOb w.heap.size 24 #[.pointer (some ⟨v, 0, none⟩)] :: devOb v L X :: os) := by
    rw [hW1]
    exact (h.newBlk w.heap.size _ _ rfl).newBlk (w.heap.size + 1) _ _ (by simp)
  have hs2 : Sep B w0 W1 (devOb v L X :: ([blkOb (w.heap.size + 1) 3 #[.int .i64 i], blkOb w.heap.size 24 #[.pointer (some ⟨v, 0, none⟩)]] ++ os)) := hs1.perm (List.perm_middle (l₁ := [_, _]))
  have HS2 := Lib.hid hs2
  have hb1 : Blk W1 (w.heap.size + 1) 3 #[.int .i64 i] := hs1.get (.head _)
  have hb2 : Blk W1 w.heap.size 24 #[.pointer (some ⟨v, 0, none⟩)] := hs1.get (.tail _ (.head _))
  have q1 : W1.cell? ⟨w.heap.size + 1, 0, none⟩ = some (.int .i64 i) := hb1.cell 0
  have q2 : W1.cell? ⟨w.heap.size, 0, none⟩ = some (.pointer (some ⟨v, 0, none⟩)) := hb2.cell 0
  have HCK := Lib.hid (check_dev hs2.dev i)
  have HC2 : Hid (AllCells ([blkOb (w.heap.size + 1) 3 #[.int .i64 i], blkOb w.heap.size 24 #[.pointer (some ⟨v, 0, none⟩)]] ++ os)) := AllCells.cons (cellOb_blk _ _ _) (AllCells.cons (cellOb_blk _ _ _) hC)
  have HX := Lib.hid hX
  have hc := chk_cases X i
  unfold oneVE SyncVX
  obtain ⟨r, hr⟩ : ∃ r, chkE X i = r := ⟨_, rfl⟩
  rw [hr] at HCK hc ⊢
  have HW1 := Lib.hid hW1
  rw [hW1] at HCK q1 q2
  clear h hX hs1 hs2 hb1 hb2 hC hr hW1
  rcases hc with ⟨_, rfl⟩ | ⟨_, _, _, rfl⟩ | ⟨_, rfl, _, s, rfl, hs, hs2⟩
  · go_enter Tryz.func65, Tryz.ntmps65
    go_wp2_with fail
    refine HCK.out.mono ?_
    rintro e w' ⟨rfl, rfl⟩
    go_wp2_with fail
    go_ret
    rw [← HW1.out]
    exact ⟨rfl, L, HS2.out.sub (.cons_cons _ (.cons _ (.cons _ (List.Sublist.refl _))))⟩
  · go_enter Tryz.func65, Tryz.ntmps65
    go_wp2_with fail
    refine HCK.out.mono ?_
    rintro e w' ⟨rfl, rfl⟩
    go_wp2_with fail
    go_ret
    rw [← HW1.out]
    exact ⟨rfl, L, HS2.out.sub (.cons_cons _ (.cons _ (.cons _ (List.Sublist.refl _))))⟩
  · rw [if_pos rfl, if_pos rfl, hs2]
    have HOP := Lib.hid (op_Sync HS2.out.split HX.out hops HC2.out _ _ _ (does_Sync (os := os) X.n L.d s w.heap.size (w.heap.size + 1) hs))
    rw [HW1.out] at HOP
    obtain ⟨E, hE⟩ : ∃ E, opE X = E := ⟨_, rfl⟩
    rw [hE] at HOP ⊢
    clear hE hs2
    go_enter Tryz.func65, Tryz.ntmps65
    go_wp2_with fail
    refine HCK.out.mono ?_
    rintro e w' ⟨rfl, rfl⟩
    go_wp2_with fail
    refine HOP.out.mono ?_
    rintro e w3 ⟨rfl, lay', hs⟩
    have HS3 := Lib.hid hs
    clear hs
    go_wp2_with fail
    go_ret
    exact ⟨rfl, _, (HS3.out.join (opX_ok HX.out _ _)).sub (.cons_cons _ (.cons _ (.cons _ (List.Sublist.refl _))))⟩
set_option maxRecDepth 100000 in
set_option maxHeartbeats 1000000 in
theorem does_Erase (n d s bd bs : Nat) (hs : s < n + 2) :
    Does B w0 v ([blkOb bs 3 #[.int .i64 (s : Int)], blkOb bd 24 #[.pointer (some ⟨v, 0, none⟩)]] ++ os) (fun D => eraseD D s) n d 76 #[.pointer (some ⟨bd, 0, none⟩), .pointer (some ⟨bs, 0, none⟩)] := by
  rintro W L' Y ex rfl rfl h
  have k1 : Blk W bs 3 #[.int .i64 (s : Int)] := h.get (.tail _ (.tail _ (.tail _ (List.mem_append.2 (.inr (.head _))))))
  have k2 : Blk W bd 24 #[.pointer (some ⟨v, 0, none⟩)] := h.get (.tail _ (.tail _ (.tail _ (List.mem_append.2 (.inr (.tail _ (.head _)))))))
  have k3 : Blk W v 76 (devCells L'.d L'.t Y) := h.get (.head _)
  have q1 : W.cell? ⟨bs, 0, none⟩ = some (.int .i64 (s : Int)) := k1.cell 0
  have q2 : W.cell? ⟨bd, 0, none⟩ = some (.pointer (some ⟨v, 0, none⟩)) := k2.cell 0
  have q3 : W.cell? ⟨v, 0, none⟩ = some (.pointer (some ⟨L'.d, 0, none⟩)) := k3.cell 0
  obtain ⟨W2, hW2⟩ : ∃ W2, W2 = W.drew := ⟨_, rfl⟩
  have H := Lib.hid h
  have HD : Hid (Sep B w0 W2 (diskOb L'.d L'.rb (Y.n + 2) L'.lay Y.D :: blkOb v 76 (devCells L'.d L'.t Y) :: tmOb L'.t L'.pb L'.kb Y.T :: (ex ++ ([blkOb bs 3 #[.int .i64 (s : Int)], blkOb bd 24 #[.pointer (some ⟨v, 0, none⟩)]] ++ os)))) := by
    rw [hW2]
    exact h.drew.perm (.swap _ _ _)
  have HC := Lib.hid (sep_derase HD.out (by omega) s (by omega))
  clear h k1 k2 k3
  go_enter Tryz.func76, Tryz.ntmps76
  go_wp2_with fail
  go_still_tail 6, (by kernel_rfl)
  change wpList _ _ _ _ _ W.drew
  rw [← hW2]
  clear hW2 q1 q2 q3
  go_wp2_with fail
  refine HC.out.mono ?_
  rintro e w3 ⟨rfl, lay', hs⟩
  have HS := Lib.hid hs
  clear hs
  go_wp2_with fail
  go_end0
  exact ⟨rfl, lay', HS.out.perm (.swap _ _ _)⟩
set_option maxRecDepth 100000 in
set_option maxHeartbeats 2000000 in
theorem sep_verase (h : Sep B w0 w (devOb v L X :: os)) (hC : AllCells os) (hops : X.ops < 4611686018427387904) (i : Int) :
    Calls Tryz.prog 28 #[.pointer (some ⟨v, 0, none⟩), .int .i64 i] w fun e w' => e = .returned (.int .i64 (oneVE X i)) ∧ ∃ L', Sep B w0 w' (devOb v L' (EraseVX X i) :: os) := by
  have hX := h.dev.ok
  obtain ⟨W1, hW1⟩ : ∃ W1, W1 = (w.alloc (.cells #[.pointer (some ⟨v, 0, none⟩)] 24)).alloc (.cells #[.int .i64 i] 3) := ⟨_, rfl⟩
  have hs1 : Sep B w0 W1 (blkOb (w.heap.size + 1) 3 #[.int .i64 i] :: blkOb w.heap.size 24 #[.pointer (some ⟨v, 0, none⟩)] :: devOb v L X :: os) := by
    rw [hW1]
    exact (h.newBlk w.heap.size _ _ rfl).newBlk (w.heap.size + 1) _ _ (by simp)
  have hs2 : Sep B w0 W1 (devOb v L X :: ([blkOb (w.heap.size + 1) 3 #[.int .i64 i], blkOb w.heap.size 24 #[.pointer (some ⟨v, 0, none⟩)]] ++ os)) := hs1.perm (List.perm_middle (l₁ := [_, _]))
  have HS2 := Lib.hid hs2
  have hb1 : Blk W1 (w.heap.size + 1) 3 #[.int .i64 i] := hs1.get (.head _)
  have hb2 : Blk W1 w.heap.size 24 #[.pointer (some ⟨v, 0, none⟩)] := hs1.get (.tail _ (.head _))
  have q1 : W1.cell? ⟨w.heap.size + 1, 0, none⟩ = some (.int .i64 i) := hb1.cell 0
  have q2 : W1.cell? ⟨w.heap.size, 0, none⟩ = some (.pointer (some ⟨v, 0, none⟩)) := hb2.cell 0
  have HCK := Lib.hid (check_dev hs2.dev i)
  have HC2 : Hid (AllCells ([blkOb (w.heap.size + 1) 3 #[.int .i64 i], blkOb w.heap.size 24 #[.pointer (some ⟨v, 0, none⟩)]] ++ os)) := AllCells.cons (cellOb_blk _ _ _) (AllCells.cons (cellOb_blk _ _ _) hC)
  have HX := Lib.hid hX
  have hc := chk_cases X i
  unfold oneVE EraseVX
  obtain ⟨r, hr⟩ : ∃ r, chkE X i = r := ⟨_, rfl⟩
  rw [hr] at HCK hc ⊢
  have HW1 := Lib.hid hW1
  rw [hW1] at HCK q1 q2
  clear h hX hs1 hs2 hb1 hb2 hC hr hW1
  rcases hc with ⟨_, rfl⟩ | ⟨_, _, _, rfl⟩ | ⟨_, rfl, _, s, rfl, hs, hs2⟩
  · go_enter Tryz.func28, Tryz.ntmps28
    go_wp2_with fail
    refine HCK.out.mono ?_
    rintro e w' ⟨rfl, rfl⟩
    go_wp2_with fail
    go_ret
    rw [← HW1.out]
    exact ⟨rfl, L, HS2.out.sub (.cons_cons _ (.cons _ (.cons _ (List.Sublist.refl _))))⟩
  · go_enter Tryz.func28, Tryz.ntmps28
    go_wp2_with fail
    refine HCK.out.mono ?_
    rintro e w' ⟨rfl, rfl⟩
    go_wp2_with fail
    go_ret
    rw [← HW1.out]
    exact ⟨rfl, L, HS2.out.sub (.cons_cons _ (.cons _ (.cons _ (List.Sublist.refl _))))⟩
  · rw [if_pos rfl, if_pos rfl, hs2]
    have HOP := Lib.hid (op_Erase HS2.out.split HX.out hops HC2.out _ _ _ (does_Erase (os := os) X.n L.d s w.heap.size (w.heap.size + 1) hs))
    rw [HW1.out] at HOP
    obtain ⟨E, hE⟩ : ∃ E, opE X = E := ⟨_, rfl⟩
    rw [hE] at HOP ⊢
    clear hE hs2
    go_enter Tryz.func28, Tryz.ntmps28
    go_wp2_with fail
    refine HCK.out.mono ?_
    rintro e w' ⟨rfl, rfl⟩
    go_wp2_with fail
    refine HOP.out.mono ?_
    rintro e w3 ⟨rfl, lay', hs⟩
    have HS3 := Lib.hid hs
    clear hs
    go_wp2_with fail
    go_ret
    exact ⟨rfl, _, (HS3.out.join (opX_ok HX.out _ _)).sub (.cons_cons _ (.cons _ (.cons _ (List.Sublist.refl _))))⟩
set_option maxRecDepth 100000 in
set_option maxHeartbeats 1000000 in
theorem does_Append (n d s bd bs bb : Nat) (A : Option Addr) (m c : Nat) (b : List (BitVec 8)) (hs : s < n + 2) (hv : ∀ W, Kept B w0 os W → Holds W (.slice A m c) b) :
    Does B w0 v ([blkOb bb 23 #[.slice A m c], blkOb bs 3 #[.int .i64 (s : Int)], blkOb bd 24 #[.pointer (some ⟨v, 0, none⟩)]] ++ os) (fun D => appD D s b) n d 36 #[.pointer (some ⟨bd, 0, none⟩), .pointer (some ⟨bs, 0, none⟩), .pointer (some ⟨bb, 0, none⟩)] := by
  rintro W L' Y ex rfl rfl h
  have k0 : Blk W bb 23 #[.slice A m c] := h.get (.tail _ (.tail _ (.tail _ (List.mem_append.2 (.inr (.head _))))))
  have k1 : Blk W bs 3 #[.int .i64 (s : Int)] := h.get (.tail _ (.tail _ (.tail _ (List.mem_append.2 (.inr (.tail _ (.head _)))))))
  have k2 : Blk W bd 24 #[.pointer (some ⟨v, 0, none⟩)] := h.get (.tail _ (.tail _ (.tail _ (List.mem_append.2 (.inr (.tail _ (.tail _ (.head _))))))))
  have k3 : Blk W v 76 (devCells L'.d L'.t Y) := h.get (.head _)
  have hvW := hv W ⟨h.bel, fun o ho => h.get (.tail _ (.tail _ (.tail _ (List.mem_append.2 (.inr (.tail _ (.tail _ (.tail _ ho))))))))⟩
  have q0 : W.cell? ⟨bb, 0, none⟩ = some (.slice A m c) := k0.cell 0
  have q1 : W.cell? ⟨bs, 0, none⟩ = some (.int .i64 (s : Int)) := k1.cell 0
  have q2 : W.cell? ⟨bd, 0, none⟩ = some (.pointer (some ⟨v, 0, none⟩)) := k2.cell 0
  have q3 : W.cell? ⟨v, 0, none⟩ = some (.pointer (some ⟨L'.d, 0, none⟩)) := k3.cell 0
  obtain ⟨W2, hW2⟩ : ∃ W2, W2 = W.drew := ⟨_, rfl⟩
  have H := Lib.hid h
  have HD : Hid (Sep B w0 W2 (diskOb L'.d L'.rb (Y.n + 2) L'.lay Y.D :: blkOb v 76 (devCells L'.d L'.t Y) :: tmOb L'.t L'.pb L'.kb Y.T :: (ex ++ ([blkOb bb 23 #[.slice A m c], blkOb bs 3 #[.int .i64 (s : Int)], blkOb bd 24 #[.pointer (some ⟨v, 0, none⟩)]] ++ os)))) := by
    rw [hW2]
    exact h.drew.perm (.swap _ _ _)
  have HC := Lib.hid (sep_dappend HD.out (by omega) s (by omega) (v := .slice A m c) (b := b) (by rw [hW2]; exact hvW.below ⟨rfl, rfl, rfl, Nat.le_refl _, fun _ _ => rfl⟩))
  clear h k0 k1 k2 k3 hvW hv
  go_enter Tryz.func36, Tryz.ntmps36
  go_wp2_with fail
  go_still_tail 7, (by kernel_rfl)
  change wpList _ _ _ _ _ W.drew
  rw [← hW2]
  clear hW2 q0 q1 q2 q3
  go_wp2_with fail
  refine HC.out.mono ?_
  rintro e w3 ⟨rfl, lay', hs⟩
  have HS := Lib.hid hs
  clear hs
  go_wp2_with fail
  go_end0
  exact ⟨rfl, lay', HS.out.perm (.swap _ _ _)⟩
set_option maxRecDepth 100000 in
set_option maxHeartbeats 4000000 in
theorem sep_vappend (h : Sep B w0 w (devOb v L X :: os)) (hC : AllCells os) (hops : X.ops < 4611686018427387904) (i : Int) {vb : Value} {b : List (BitVec 8)} (hv : ∀ W, Kept B w0 os W → Holds W vb b) :
    Calls Tryz.prog 7 #[.pointer (some ⟨v, 0, none⟩), .int .i64 i, vb] w fun e w' => e = .returned (.int .i64 (appVE X i b)) ∧ ∃ L', Sep B w0 w' (devOb v L' (appVX X i b) :: os) := by
  have hX := h.dev.ok
  obtain ⟨A, m, c, rfl, hm, hmc, hcm, hrd⟩ := hv w ⟨h.bel, fun o ho => h.get (.tail _ ho)⟩
  obtain ⟨W1, hW1⟩ : ∃ W1, W1 = ((w.alloc (.cells #[.pointer (some ⟨v, 0, none⟩)] 24)).alloc (.cells #[.int .i64 i] 3)).alloc (.cells #[.slice A m c] 23) := ⟨_, rfl⟩
  have hs1 : Sep B w0 W1 (blkOb (w.heap.size + 1 + 1) 23 #[.slice A m c] :: blkOb (w.heap.size + 1) 3 #[.int .i64 i] :: blkOb w.heap.size 24 #[.pointer (some ⟨v, 0, none⟩)] :: devOb v L X :: os) := by
    rw [hW1]
    exact ((h.newBlk w.heap.size _ _ rfl).newBlk (w.heap.size + 1) _ _ (by simp)).newBlk (w.heap.size + 1 + 1) _ _ (by simp)
  have hs2 : Sep B w0 W1 (devOb v L X :: ([blkOb (w.heap.size + 1 + 1) 23 #[.slice A m c], blkOb (w.heap.size + 1) 3 #[.int .i64 i], blkOb w.heap.size 24 #[.pointer (some ⟨v, 0, none⟩)]] ++ os)) := hs1.perm (List.perm_middle (l₁ := [_, _, _]))
  have HS2 := Lib.hid hs2
  have hb0 : Blk W1 (w.heap.size + 1 + 1) 23 #[.slice A m c] := hs1.get (.head _)
  have hb1 : Blk W1 (w.heap.size + 1) 3 #[.int .i64 i] := hs1.get (.tail _ (.head _))
  have hb2 : Blk W1 w.heap.size 24 #[.pointer (some ⟨v, 0, none⟩)] := hs1.get (.tail _ (.tail _ (.head _)))
  have q0 : W1.cell? ⟨w.heap.size + 1 + 1, 0, none⟩ = some (.slice A m c) := hb0.cell 0
  have q1 : W1.cell? ⟨w.heap.size + 1, 0, none⟩ = some (.int .i64 i) := hb1.cell 0
  have q2 : W1.cell? ⟨w.heap.size, 0, none⟩ = some (.pointer (some ⟨v, 0, none⟩)) := hb2.cell 0
  have q3 : W1.cell? ⟨v, 0, none⟩ = some (.pointer (some ⟨L.d, 0, none⟩)) := hs2.dev.c0
  have HCK := Lib.hid (check_dev hs2.dev i)
  have HC2 : Hid (AllCells ([blkOb (w.heap.size + 1 + 1) 23 #[.slice A m c], blkOb (w.heap.size + 1) 3 #[.int .i64 i], blkOb w.heap.size 24 #[.pointer (some ⟨v, 0, none⟩)]] ++ os)) := AllCells.cons (cellOb_blk _ _ _) (AllCells.cons (cellOb_blk _ _ _) (AllCells.cons (cellOb_blk _ _ _) hC))
  have HX := Lib.hid hX
  have HV := Lib.hid hv
  have HM := Lib.hid hm
  have hc := chk_cases X i
  unfold appVE appVX
  obtain ⟨r, hr⟩ : ∃ r, chkE X i = r := ⟨_, rfl⟩
  rw [hr] at HCK hc ⊢
  have HW1 := Lib.hid hW1
  unfold maxLen at hcm
  clear h hX hs1 hs2 hb0 hb1 hb2 hC hr hv hm hrd
  rcases hc with ⟨_, rfl⟩ | ⟨_, _, _, rfl⟩ | ⟨_, rfl, _, s, rfl, hs, hs2⟩
  · rw [hW1] at HCK q1 q2
    clear hW1 q0 q3
    go_enter Tryz.func7, Tryz.ntmps7
    go_wp2_with fail
    refine HCK.out.mono ?_
    rintro e w' ⟨rfl, rfl⟩
    go_wp2_with fail
    go_ret
    rw [← HW1.out]
    exact ⟨rfl, L, HS2.out.sub (.cons_cons _ (.cons _ (.cons _ (.cons _ (List.Sublist.refl _)))))⟩
  · rw [hW1] at HCK q1 q2
    clear hW1 q0 q3
    go_enter Tryz.func7, Tryz.ntmps7
    go_wp2_with fail
    refine HCK.out.mono ?_
    rintro e w' ⟨rfl, rfl⟩
    go_wp2_with fail
    go_ret
    rw [← HW1.out]
    exact ⟨rfl, L, HS2.out.sub (.cons_cons _ (.cons _ (.cons _ (.cons _ (List.Sublist.refl _)))))⟩
  · rw [if_pos rfl, if_pos rfl, hs2]
    have HRM : Hid (Calls Tryz.prog 34 #[.pointer (some ⟨L.d, 0, none⟩), .int .i64 (s : Int)] W1.drew fun e w' => e = .returned (.tuple #[.int .i64 (((X.D s).size : Int) - ((X.D s).bytes.length : Int)), .int .i64 0]) ∧ Hid (Below W1.heap.size W1 w')) := by
      refine (disk_room (HS2.out.dev.disk.below (show Below W1.heap.size W1 W1.drew from (Below.refl _ _).drew)) (by omega) s hs).mono ?_
      rintro e w' ⟨h1, h2⟩
      exact ⟨h1, ((Below.refl _ W1).drew).trans h2⟩
    have hnum := HS2.out.dev.disk.nums hs
    obtain ⟨sz, hsz⟩ : ∃ sz, (X.D s).size = sz := ⟨_, rfl⟩
    obtain ⟨ln, hln⟩ : ∃ ln, (X.D s).bytes.length = ln := ⟨_, rfl⟩
    rw [hsz, hln] at HRM hnum ⊢
    obtain ⟨_, hl1, hl2, hl3⟩ := hnum
    have hiff : (ln + b.length ≤ sz) ↔ ¬ (((sz : Int) - (ln : Int)) < (m : Int)) := by have := HM.out; omega
    have HIFF := Lib.hid hiff
    have HOPE : Hid (∀ W3, Sep B w0 W3 (devOb v L X :: ([blkOb (w.heap.size + 1 + 1) 23 #[.slice A m c], blkOb (w.heap.size + 1) 3 #[.int .i64 (s : Int)], blkOb w.heap.size 24 #[.pointer (some ⟨v, 0, none⟩)]] ++ os)) → Calls Tryz.prog 35 #[.pointer (some ⟨v, 0, none⟩), .func (.func 36) #[] #[.pointer (some ⟨w.heap.size, 0, none⟩), .pointer (some ⟨w.heap.size + 1, 0, none⟩), .pointer (some ⟨w.heap.size + 1 + 1, 0, none⟩)], .func (.func 38) #[] #[]] W3 fun e w' => e = .returned (.int .i64 (opE X)) ∧ ∃ L', Sep B w0 w' (devOb v L' (opX X (fun D => appD D s b) (fun _ => true)) :: os)) := fun W3 h3 => by
      refine (op_Append h3.split HX.out hops HC2.out _ _ _ _ (does_Append (os := os) X.n L.d s w.heap.size (w.heap.size + 1) (w.heap.size + 1 + 1) A m c b hs HV.out)).mono ?_
      rintro e w' ⟨h1, lay', h4⟩
      exact ⟨h1, _, (h4.join (opX_ok HX.out _ _)).sub (.cons_cons _ (.cons _ (.cons _ (.cons _ (List.Sublist.refl _)))))⟩
    obtain ⟨E, hE⟩ : ∃ E, opE X = E := ⟨_, rfl⟩
    obtain ⟨Z, hZ⟩ : ∃ Z, opX X (fun D => appD D s b) (fun _ => true) = Z := ⟨_, rfl⟩
    rw [hE, hZ] at HOPE ⊢
    have HQ : Hid (∀ X2 : World, X2.cell? ⟨w.heap.size, 0, none⟩ = some (.pointer (some ⟨v, 0, none⟩)) → True) := fun _ _ => trivial
    clear hE hZ hs2 hsz hln hiff HQ HV
    by_cases hfit : ((sz : Int) - (ln : Int)) < (m : Int)
    · rw [if_neg (fun e => HIFF.out.1 e hfit), if_neg (fun e => HIFF.out.1 e hfit)]
      clear HIFF HOPE
      rw [hW1] at q1 q2
      go_enter Tryz.func7, Tryz.ntmps7
      go_wp2_with fail
      rw [← hW1]
      refine HCK.out.mono ?_
      rintro e w' ⟨rfl, rfl⟩
      rw [← hW1] at q1 q2
      clear hW1
      go_wp2_with fail
      go_region_held3 (fun Y => Y.cell? ⟨w.heap.size, 0, none⟩ = some (.pointer (some ⟨v, 0, none⟩)) ∧ Y.cell? ⟨w.heap.size + 1, 0, none⟩ = some (.int .i64 (s : Int)) ∧ Y.cell? ⟨v, 0, none⟩ = some (.pointer (some ⟨L.d, 0, none⟩))) (first | (refine ⟨?_, ?_, ?_⟩ <;> assumption) | go_keep)
        (first
          | (go_at_call 34; refine HRM.out.mono ?_; rintro e w2 ⟨rfl, hb2⟩
             have e1 : w2.cell? ⟨w.heap.size, 0, none⟩ = some (.pointer (some ⟨v, 0, none⟩)) := (hb2.out.cell (p := ⟨w.heap.size, 0, none⟩) (block_lt_of_cell q2)).trans q2
             have e2 : w2.cell? ⟨w.heap.size + 1, 0, none⟩ = some (.int .i64 (s : Int)) := (hb2.out.cell (p := ⟨w.heap.size + 1, 0, none⟩) (block_lt_of_cell q1)).trans q1
             have e3 : w2.cell? ⟨v, 0, none⟩ = some (.pointer (some ⟨L.d, 0, none⟩)) := (hb2.out.cell (p := ⟨v, 0, none⟩) (block_lt_of_cell q3)).trans q3))
      have e0 : w2.cell? ⟨w.heap.size + 1 + 1, 0, none⟩ = some (.slice A m c) := (hb2.out.cell (p := ⟨w.heap.size + 1 + 1, 0, none⟩) (block_lt_of_cell q0)).trans q0
      clear q0 q1 q2 q3 e1 e2 e3
      go_wp2_with fail
      go_ret
      exact ⟨rfl, L, (HS2.out.below hb2.out).sub (.cons_cons _ (.cons _ (.cons _ (.cons _ (List.Sublist.refl _)))))⟩
    · rw [if_pos (HIFF.out.2 hfit), if_pos (HIFF.out.2 hfit)]
      clear HIFF
      rw [hW1] at q1 q2
      go_enter Tryz.func7, Tryz.ntmps7
      go_wp2_with fail
      rw [← hW1]
      refine HCK.out.mono ?_
      rintro e w' ⟨rfl, rfl⟩
      rw [← hW1] at q1 q2
      clear hW1
      go_wp2_with fail
      go_region_held3 (fun Y => Y.cell? ⟨w.heap.size, 0, none⟩ = some (.pointer (some ⟨v, 0, none⟩)) ∧ Y.cell? ⟨w.heap.size + 1, 0, none⟩ = some (.int .i64 (s : Int)) ∧ Y.cell? ⟨v, 0, none⟩ = some (.pointer (some ⟨L.d, 0, none⟩))) (first | (refine ⟨?_, ?_, ?_⟩ <;> assumption) | go_keep)
        (first
          | (go_at_call 34; refine HRM.out.mono ?_; rintro e w2 ⟨rfl, hb2⟩
             have e1 : w2.cell? ⟨w.heap.size, 0, none⟩ = some (.pointer (some ⟨v, 0, none⟩)) := (hb2.out.cell (p := ⟨w.heap.size, 0, none⟩) (block_lt_of_cell q2)).trans q2
             have e2 : w2.cell? ⟨w.heap.size + 1, 0, none⟩ = some (.int .i64 (s : Int)) := (hb2.out.cell (p := ⟨w.heap.size + 1, 0, none⟩) (block_lt_of_cell q1)).trans q1
             have e3 : w2.cell? ⟨v, 0, none⟩ = some (.pointer (some ⟨L.d, 0, none⟩)) := (hb2.out.cell (p := ⟨v, 0, none⟩) (block_lt_of_cell q3)).trans q3))
      have e0 : w2.cell? ⟨w.heap.size + 1 + 1, 0, none⟩ = some (.slice A m c) := (hb2.out.cell (p := ⟨w.heap.size + 1 + 1, 0, none⟩) (block_lt_of_cell q0)).trans q0
      have HOPR := Lib.hid (HOPE.out w2 (HS2.out.below hb2.out))
      clear q0 q1 q2 q3 e2 e3 HOPE
      go_wp2_with fail
      refine HOPR.out.mono ?_
      rintro e w3 ⟨rfl, L', hs⟩
      have HS3 := Lib.hid hs
      clear hs
      go_wp2_with fail
      go_ret
      exact ⟨rfl, L', HS3.out⟩
end
end Go.Proofs.YtnopljanpjmbgaaGreat
namespace Go.Proofs.YtnopljanpjmbgaaGreat
open Go.RowKit Go.Shelf
set_option linter.unusedVariables false
def armE (at_ : Int) (keep : List Int) : Int := if okPlan at_ keep then 0 else 2
def armX (X : DevD) (at_ : Int) (dn : Bool) (keep : List Int) : DevD := if okPlan at_ keep then (if at_ = 0 ∧ X.down = false then { X with D := crashD keep X.D, T := armP at_ dn keep, down := true } else { X with T := armP at_ dn keep }) else X
section
variable {B : Nat} {w0 w w' : World} {os : List Ob} {v : Nat} {L : DLay} {X : DevD}
theorem armX_ok (h : X.Ok) (at_ : Int) (dn : Bool) (keep : List Int) : (armX X at_ dn keep).Ok := by
  unfold armX
  by_cases e : okPlan at_ keep
  · rw [if_pos e]
    split
    · exact ⟨h.n2, h.n32, OkP.arm e⟩
    · exact ⟨h.n2, h.n32, OkP.arm e⟩
  · rw [if_neg e]
    exact h
set_option maxRecDepth 100000 in
set_option maxHeartbeats 2000000 in
theorem sep_varm (h : Sep B w0 w (devOb v L X :: os)) (hC : AllCells os) (at_ : Int) (dn : Bool) (A : Option Addr) (m c : Nat) (keep : List Int) (hr : ∀ W, Kept B w0 os W → Reads W W.heap.size 1 A m (ints keep)) (hmc : m ≤ c) (hcm : c ≤ maxLen) (hz : A = none → c = 0) (hA : ∀ ad, A = some ad → 0 < m → ¬ vfoot v L X ad.block) (hat : -9223372036854775808 ≤ at_ ∧ at_ ≤ 9223372036854775807) :
    Calls Tryz.prog 24 #[.pointer (some ⟨v, 0, none⟩), planV at_ dn A m c] w fun e w' => e = .returned (.int .i64 (armE at_ keep)) ∧ ∃ L', Sep B w0 w' (devOb v L' (armX X at_ dn keep) :: os) := by
  have hX := h.dev.ok
  obtain ⟨W1, hW1⟩ : ∃ W1, W1 = w.alloc (.cells #[.int .i64 at_, .bool dn, .slice A m c] 64) := ⟨_, rfl⟩
  have hs1 : Sep B w0 W1 (blkOb w.heap.size 64 #[.int .i64 at_, .bool dn, .slice A m c] :: devOb v L X :: os) := by rw [hW1]; exact h.newBlk _ _ _ rfl
  have hs2 : Sep B w0 W1 (devOb v L X :: blkOb w.heap.size 64 #[.int .i64 at_, .bool dn, .slice A m c] :: os) := hs1.perm (.swap _ _ _)
  obtain ⟨pb, hpb⟩ : ∃ pb, pb = w.heap.size := ⟨_, rfl⟩
  rw [← hpb] at hs1 hs2
  have hb1 := hs1.blk0
  have c0 : W1.cell? ⟨pb, 0, none⟩ = some (.int .i64 at_) := hb1.cell 0
  have c1 : W1.cell? ⟨pb, 1, none⟩ = some (.bool dn) := hb1.cell 1
  have c2 : W1.cell? ⟨pb, 2, none⟩ = some (.slice A m c) := hb1.cell 2
  have q1 : W1.cell? ⟨v, 1, none⟩ = some (.pointer (some ⟨L.t, 0, none⟩)) := hs2.dev.c1
  have HS2 := Lib.hid hs2
  have HV := Lib.hid (valid_dev hs2.dev)
  have hrd := hr W1 ⟨hs1.bel, fun o ho => hs1.get (.tail _ (.tail _ ho))⟩
  obtain ⟨W2, hW2⟩ : ∃ W2, W2 = W1.drew := ⟨_, rfl⟩
  have HS3 : Hid (Sep B w0 W2 (devOb v L X :: blkOb pb 64 #[.int .i64 at_, .bool dn, .slice A m c] :: os)) := by rw [hW2]; exact hs2.drew
  have HT := Lib.hid (timer_arm HS3.out.dev.tm at_ dn A m c keep (hr W2 ⟨HS3.out.bel, fun o ho => HS3.out.get (.tail _ (.tail _ ho))⟩) hmc hcm hz (fun ad e hm0 e2 => hA ad e hm0 (.inr (.inr (by rw [e2]; exact tmfoot_own)))) hat)
  have HX := Lib.hid hX
  have HC2 : Hid (AllCells (blkOb pb 64 #[.int .i64 at_, .bool dn, .slice A m c] :: os)) := AllCells.cons (cellOb_blk _ _ _) hC
  have hlen : keep.length = m := by have := hrd.1; rw [ints_length] at this; omega
  have HLEN := Lib.hid hlen
  have HR := Lib.hid hr
  have HW1 := Lib.hid hW1
  have HPB := Lib.hid hpb
  obtain ⟨E, hE⟩ : ∃ E, armE at_ keep = E := ⟨_, rfl⟩
  obtain ⟨Z, hZ⟩ : ∃ Z, armX X at_ dn keep = Z := ⟨_, rfl⟩
  have HE := Lib.hid hE
  have HZ := Lib.hid hZ
  rw [hE, hZ]
  rw [hW1] at HV
  unfold planV at HT ⊢
  clear h hX hs1 hs2 hb1 hr hz hA hrd hlen hE hZ hC
  go_enter Tryz.func24, Tryz.ntmps24
  go_wp2_with fail
  rw [← hW1, ← hpb]
  rw [← hW1] at HV
  clear hW1 hpb
  refine HV.out.mono ?_
  rintro e w' ⟨rfl, rfl⟩
  go_wp2_with fail
  go_still_tail 6, (by kernel_rfl)
  change wpList _ _ _ _ _ W1.drew
  rw [← hW2]
  clear hW2 c0 c1 c2 q1 HV
  go_wp2_with fail
  refine HT.out.mono ?_
  rintro e w3 (⟨hno, rfl, hb⟩ | ⟨hok, rfl, pb', kb', ht, hch, hfo⟩)
  · have HS4 := Lib.hid (HS3.out.below hb)
    have HNO := Lib.hid hno
    clear hb hno
    go_wp2_with fail
    go_ret
    have hE : E = 2 := by rw [← HE.out]; unfold armE; rw [if_neg HNO.out]
    refine ⟨by rw [hE]; rfl, L, ?_⟩
    rw [← HZ.out, show armX X at_ dn keep = X from by unfold armX; rw [if_neg HNO.out]]
    exact HS4.out.sub (.cons_cons _ (.cons _ (List.Sublist.refl _)))
  · have hs4 : Sep B w0 w3 (dv3 v { L with pb := pb', kb := kb' } { X with T := armP at_ dn keep } (blkOb pb 64 #[.int .i64 at_, .bool dn, .slice A m c] :: os)) :=
      HS3.out.split.step2 (a := tmOb L.t L.pb L.kb X.T) (a' := tmOb L.t pb' kb' (armP at_ dn keep)) (hch.mono (fun k _ hk => by have e : k = L.t := hk; rw [e]; exact tmfoot_own)) ht (fun k hk => (hfo k hk).imp (fun e => by rw [e]; exact tmfoot_own) id)
    have HS4 := Lib.hid hs4
    have HOK := Lib.hid hok
    have HE0 : Hid (E = 0) := by show _ = _; rw [← HE.out]; unfold armE; rw [if_pos hok]
    have kp : Blk w3 pb 64 #[.int .i64 at_, .bool dn, .slice A m c] := hs4.get (.tail _ (.tail _ (.tail _ (.head _))))
    have kv : Blk w3 v 76 (devCells L.d L.t { X with T := armP at_ dn keep }) := hs4.get (.head _)
    have d0 : w3.cell? ⟨pb, 0, none⟩ = some (.int .i64 at_) := kp.cell 0
    have d1 : w3.cell? ⟨pb, 1, none⟩ = some (.bool dn) := kp.cell 1
    have d2 : w3.cell? ⟨pb, 2, none⟩ = some (.slice A m c) := kp.cell 2
    have d4 : w3.cell? ⟨v, 4, none⟩ = some (.bool X.down) := kv.cell 4
    have HCR := Lib.hid (sep_vcrash hs4 HC2.out HX.out.n32 at_ dn A m c keep (fun W hW => HR.out W ⟨hW.1, fun o ho => hW.2 o (.tail _ ho)⟩) (by have := hok.2.1.1; have := HLEN.out; omega) (by have := hok.2.1.2; have := HLEN.out; omega) hok.2.2)
    unfold planV at HCR
    obtain ⟨xd, hxd⟩ : ∃ xd, X.down = xd := ⟨_, rfl⟩
    have HXD := Lib.hid hxd
    rw [hxd] at d4
    clear hs4 kp kv ht hch hfo hok hxd
    by_cases ha : at_ = 0
    · subst ha
      cases xd with
      | true =>
        go_wp2_with fail
        go_ret
        refine ⟨by rw [HE0.out]; rfl, { L with pb := pb', kb := kb' }, ?_⟩
        rw [← HZ.out, show armX X 0 dn keep = { X with T := armP 0 dn keep } from by unfold armX; rw [if_pos HOK.out, if_neg (fun h => by rw [HXD.out] at h; cases h.2)]]
        exact (Sep.join (X := { X with T := armP 0 dn keep }) HS4.out ⟨HX.out.n2, HX.out.n32, OkP.arm (dn := dn) HOK.out⟩).sub (.cons_cons _ (.cons _ (List.Sublist.refl _)))
      | false =>
        go_wp2_with fail
        refine HCR.out.mono ?_
        rintro e w5 ⟨rfl, hs⟩
        have HS5 := Lib.hid hs
        clear hs d0 d1 d2 d4 HCR
        go_wp2_with fail
        go_ret
        refine ⟨by rw [HE0.out]; rfl, { L with pb := pb', kb := kb' }, ?_⟩
        rw [← HZ.out, show armX X 0 dn keep = { X with D := crashD keep X.D, T := armP 0 dn keep, down := true } from by unfold armX; rw [if_pos HOK.out, if_pos ⟨rfl, HXD.out⟩]]
        exact (HS5.out.join ⟨HX.out.n2, HX.out.n32, OkP.arm (dn := dn) HOK.out⟩).sub (.cons_cons _ (.cons _ (List.Sublist.refl _)))
    · have ha2 : (at_ == 0) = false := by rw [beq_eq_false_iff_ne]; exact ha
      go_wp2_with fail
      go_ret
      refine ⟨by rw [HE0.out]; rfl, { L with pb := pb', kb := kb' }, ?_⟩
      rw [← HZ.out, show armX X at_ dn keep = { X with T := armP at_ dn keep } from by unfold armX; rw [if_pos HOK.out, if_neg (fun h => ha h.1)]]
      exact (HS4.out.join ⟨HX.out.n2, HX.out.n32, OkP.arm (dn := dn) HOK.out⟩).sub (.cons_cons _ (.cons _ (List.Sublist.refl _)))
def restartX (X : DevD) : DevD := { X with down := false }
set_option maxRecDepth 100000 in
set_option maxHeartbeats 400000 in
theorem sep_vrestart (h : Sep B w0 w (devOb v L X :: os)) :
    Calls Tryz.prog 26 #[.pointer (some ⟨v, 0, none⟩)] w fun e w' => e = .returned (.int .i64 0) ∧ Sep B w0 w' (devOb v L (restartX X) :: os) := by
  have HV := Lib.hid (valid_dev h.dev)
  have q4 := h.dev.c4
  have f4 := h.dev.blk.frozen 4
  have H := Lib.hid h
  clear h
  go_enter Tryz.func26, Tryz.ntmps26
  go_wp2_with fail
  refine HV.out.mono ?_
  rintro e w' ⟨rfl, rfl⟩
  go_wp2_with fail
  go_ret
  have hX := H.out.dev.ok
  exact ⟨rfl, Sep.join (X := restartX X) (H.out.split.setBlk 4 (.bool false)) ⟨hX.n2, hX.n32, hX.tm⟩⟩
end
end Go.Proofs.YtnopljanpjmbgaaGreat

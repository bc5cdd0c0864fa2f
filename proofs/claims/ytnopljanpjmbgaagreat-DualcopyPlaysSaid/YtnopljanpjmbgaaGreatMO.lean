/-
  The walk of dualcopy.Write; The walk of dualcopy.Begin.
-/
import Derived.Test.YtnopljanpjmbgaaGreatMN
import Derived.Test.YtnopljanpjmbgaaGreatML
import Derived.Deep.RegionHeld3
import Derived.Deep.DeepCutAuto
import Derived.Deep.CutBlock
import Derived.Deep.QuietTactic
import Derived.BigQuiet
import Derived.Deep.RegionLaw
namespace Go.Proofs.YtnopljanpjmbgaaGreat
open Go.RowKit Go.Shelf Drum
set_option linter.unusedVariables false
theorem erase_ops (X : DevD) (i : Int) : (EraseVX X i).ops ≤ X.ops + 1 := by unfold EraseVX; split <;> simp [opX]
theorem sync_ops (X : DevD) (i : Int) : (SyncVX X i).ops ≤ X.ops + 1 := by unfold SyncVX; split <;> simp [opX]
theorem app_ops (X : DevD) (i : Int) (b : List (BitVec 8)) : (appVX X i b).ops ≤ X.ops + 1 := by
  unfold appVX
  split
  · split <;> simp [opX]
  · simp
/-- The bytes of an encoding. -/
def rawOb (g : Nat) (b : Bk) : Ob where
  P w := ∃ cs, Blk w g 5 cs ∧ cs.toList.take 64 = u8s (encOf b)
  F k := k = g
  keep hc hF h := by
    obtain ⟨cs, h1, h2⟩ := h
    exact ⟨cs, h1.chg hc (hF _ rfl), h2⟩
  lt h k hk := by
    obtain ⟨cs, h1, h2⟩ := h
    subst hk
    exact h1.lt
theorem cellOb_raw (g : Nat) (b : Bk) : CellOb (rawOb g b) := fun w h k hk => by
  obtain ⟨cs, h1, h2⟩ := h
  exact cellOb_blk g _ cs w h1 k hk
theorem raw_holds {w : World} {g : Nat} {b : Bk} (h : (rawOb g b).P w) : Holds w (.slice (some ⟨g, 0, none⟩) 64 64) (encOf b) := by
  obtain ⟨cs, h1, h2⟩ := h
  have hl : (encOf b).length = 64 := encOf_length b
  exact ⟨_, 64, 64, rfl, hl.symm, Nat.le_refl _, by unfold maxLen; omega, reads_blk h1 0 64 _ hl (by simpa using h2)⟩
def bkCells (b : Bk) : Array Value := #[.int .i64 b.epoch, .int .i64 b.conf.slots, .int .i64 b.conf.size, .int .i64 b.conf.reserve, .int .i64 b.conf.work, .int .i64 b.conf.key, .int .i64 b.conf.value, .int .i64 b.conf.policy]
theorem wX_ops (X : DevD) (b : Bk) (j : Nat) : (wX X b j).ops ≤ X.ops + 3 := by
  have h1 := erase_ops X (wslot X b : Int)
  have h2 := app_ops (EraseVX X (wslot X b : Int)) (wslot X b : Int) (encOf b)
  have h3 := sync_ops (appVX (EraseVX X (wslot X b : Int)) (wslot X b : Int) (encOf b)) (wslot X b : Int)
  unfold wX
  split <;> omega
set_option maxHeartbeats 4000000 in
/-- The closure that appends the encoding. -/
theorem dadd_any {B : Nat} {w0 w : World} {O2 : List Ob} {v : Nat} {L : DLay} {X : DevD} {b2 b6 g : Nat} {b : Bk} (h : Sep B w0 w (devOb v L X :: O2)) (hC : AllCells O2) (hops : X.ops < 4611686018427387904) (h2 : blkOb b2 24 #[.pointer (some ⟨v, 0, none⟩)] ∈ O2) (h6 : blkOb b6 23 #[.slice (some ⟨g, 0, none⟩) 64 64] ∈ O2) (hr : rawOb g b ∈ O2) (s : Int) :
    Calls Tryz.prog 64 #[.int .i64 s, .pointer (some ⟨b2, 0, none⟩), .pointer (some ⟨b6, 0, none⟩)] w fun e w' => e = .returned (.int .i64 (appVE X s (encOf b))) ∧ ∃ L', Sep B w0 w' (devOb v L' (appVX X s (encOf b)) :: O2) := by
  have k2 : Blk w b2 24 #[.pointer (some ⟨v, 0, none⟩)] := h.get (.tail _ h2)
  have k6 : Blk w b6 23 #[.slice (some ⟨g, 0, none⟩) 64 64] := h.get (.tail _ h6)
  have q2 : w.cell? ⟨b2, 0, none⟩ = some (.pointer (some ⟨v, 0, none⟩)) := k2.cell 0
  have q6 : w.cell? ⟨b6, 0, none⟩ = some (.slice (some ⟨g, 0, none⟩) 64 64) := k6.cell 0
  have HCC := Lib.hid (sep_vappend h hC hops s (vb := .slice (some ⟨g, 0, none⟩) 64 64) (b := encOf b) (fun W hW => raw_holds (hW.2 _ hr)))
  clear h hC h2 h6 hr k2 k6
  go_enter Tryz.func64, Tryz.ntmps64
  go_wp2_with fail
  refine HCC.out.mono ?_
  rintro e w1 ⟨rfl, hs⟩
  have HS := Lib.hid hs
  clear hs
  go_wp2_with fail
  go_ret
  exact ⟨rfl, HS.out⟩
section
variable {B : Nat} {w0 w w' : World} {os : List Ob} {v : Nat} {L : DLay} {X : DevD}
set_option maxRecDepth 100000 in
set_option maxHeartbeats 8000000 in
theorem sep_dwrite (h : Sep B w0 w (devOb v L X :: os)) (hC : AllCells os) (hops : X.ops < 4611686018427387000) (b : Bk) (hb : b.wf) :
    Calls Tryz.prog 21 #[.pointer (some ⟨v, 0, none⟩), .agg #[.int .i64 b.epoch, .int .i64 b.conf.slots, .int .i64 b.conf.size, .int .i64 b.conf.reserve, .int .i64 b.conf.work, .int .i64 b.conf.key, .int .i64 b.conf.value, .int .i64 b.conf.policy]] w fun e w' => e = .returned (.int .i64 (writeX X b).1) ∧ ∃ L', Sep B w0 w' (devOb v L' (writeX X b).2 :: os) := by
  obtain ⟨b2, hb2⟩ : ∃ b2, b2 = w.heap.size := ⟨_, rfl⟩
  obtain ⟨b3, hb3⟩ : ∃ b3, b3 = w.heap.size + 1 := ⟨_, rfl⟩
  obtain ⟨W1, hW1⟩ : ∃ W1 : World, W1 = (w.alloc (.cells #[.pointer (some ⟨v, 0, none⟩)] 24)).alloc (.cells (bkCells b) 33) := ⟨_, rfl⟩
  obtain ⟨O1, hO1⟩ : ∃ O1 : List Ob, O1 = blkOb b3 33 (bkCells b) :: blkOb b2 24 #[.pointer (some ⟨v, 0, none⟩)] :: os := ⟨_, rfl⟩
  have HS1 : Hid (Sep B w0 W1 (devOb v L X :: O1)) := by
    show Sep _ _ _ _
    rw [hW1, hO1]
    exact ((h.newBlk b2 _ _ hb2).newBlk b3 _ _ (by rw [World.size_alloc]; exact hb3)).perm (List.perm_middle (l₁ := [_, _]))
  have HC1 : Hid (AllCells O1) := by
    show AllCells O1
    rw [hO1]
    exact AllCells.cons (cellOb_blk _ _ _) (AllCells.cons (cellOb_blk _ _ _) hC)
  obtain ⟨STA, hSTA⟩ : ∃ STA : World → Prop, STA = fun W => Sep B w0 W (devOb v L X :: O1) := ⟨_, rfl⟩
  have HCE : Hid (∀ W, STA W → W.cell? ⟨b2, 0, none⟩ = some (.pointer (some ⟨v, 0, none⟩)) ∧ W.cell? ⟨b3, 0, none⟩ = some (.int .i64 b.epoch) ∧ W.cell? ⟨b3, 1, none⟩ = some (.int .i64 b.conf.slots) ∧ W.cell? ⟨b3, 2, none⟩ = some (.int .i64 b.conf.size) ∧ W.cell? ⟨b3, 3, none⟩ = some (.int .i64 b.conf.reserve) ∧ W.cell? ⟨b3, 4, none⟩ = some (.int .i64 b.conf.work) ∧ W.cell? ⟨b3, 5, none⟩ = some (.int .i64 b.conf.key) ∧ W.cell? ⟨b3, 6, none⟩ = some (.int .i64 b.conf.value) ∧ W.cell? ⟨b3, 7, none⟩ = some (.int .i64 b.conf.policy)) := fun W hW => by
    rw [hSTA] at hW
    have hW : Sep B w0 W (devOb v L X :: O1) := hW
    rw [hO1] at hW
    have k3 : Blk W b3 33 (bkCells b) := hW.get (.tail _ (.head _))
    have k2 : Blk W b2 24 #[.pointer (some ⟨v, 0, none⟩)] := hW.get (.tail _ (.tail _ (.head _)))
    exact ⟨k2.cell 0, k3.cell 0, k3.cell 1, k3.cell 2, k3.cell 3, k3.cell 4, k3.cell 5, k3.cell 6, k3.cell 7⟩
  have sta1 : STA W1.drew := by rw [hSTA]; exact HS1.out.drew
  have HCH : Hid (∀ W, STA W → Calls Tryz.prog 45 #[.agg #[.int .i64 b.epoch, .int .i64 b.conf.slots, .int .i64 b.conf.size, .int .i64 b.conf.reserve, .int .i64 b.conf.work, .int .i64 b.conf.key, .int .i64 b.conf.value, .int .i64 b.conf.policy]] W fun e w' => e = .returned (.int .i64 (okN b.ok)) ∧ STA w') := fun W hW => by
    refine (check_any b hb W).mono ?_
    rintro e w' ⟨h1, h2⟩
    rw [hSTA] at hW ⊢
    exact ⟨h1, Sep.below hW h2⟩
  have HDC : Hid (∀ W al, STA W → Calls Tryz.prog 39 #[.pointer (some ⟨v, 0, none⟩), .bool al] W fun e w' => e = .returned (.int .i64 (chkD X al)) ∧ W = w') := fun W al hW => by
    rw [hSTA] at hW
    exact dcheck_any (Sep.dev hW) al
  have HST := Lib.hid hSTA
  have HO1 := Lib.hid hO1
  obtain ⟨q2, q30, q31, q32, q33, q34, q35, q36, q37⟩ := HCE.out _ (by rw [hSTA]; exact HS1.out : STA W1)
  have HEN := fun (hok : b.ok) (W : World) => encode_any b hb hok W
  have hws : wslot X b = X.n + (b.epoch % 2).toNat := rfl
  have hX := h.dev.ok
  have hn32 := hX.n32
  have HH := Lib.hid h
  clear h hC hSTA hO1
  by_cases hok : b.ok
  · cases hd : X.down with
    | true =>
      have HX := Lib.hid (show writeX X b = (13, X) by
        unfold writeX
        rw [if_neg (by simpa using hok), if_pos hd])
      have HD2 : Hid (∀ W, STA W → Calls Tryz.prog 39 #[.pointer (some ⟨v, 0, none⟩), .bool true] W fun e w' => e = .returned (.int .i64 13) ∧ W = w') := fun W hW => by
        have := HDC.out W true hW
        unfold chkD at this
        rw [if_pos rfl, hd, if_pos rfl] at this
        exact this
      have HOK := Lib.hid (okN_yes hok)
      rw [HOK.out] at HCH
      clear HEN hok hws HDC hd HOK
      go_enter Tryz.func21, Tryz.ntmps21
      go_wp2_with fail
      rw [← hb3, ← hb2]
      rw [show (w.alloc (.cells #[.pointer (some ⟨v, 0, none⟩)] 24)).alloc (.cells #[.int .i64 b.epoch, .int .i64 b.conf.slots, .int .i64 b.conf.size, .int .i64 b.conf.reserve, .int .i64 b.conf.work, .int .i64 b.conf.key, .int .i64 b.conf.value, .int .i64 b.conf.policy] 33) = W1 from hW1.symm]
      clear hW1 hb2 hb3
      go_region_held3 (fun X' => X'.cell? ⟨b2, 0, none⟩ = some (.pointer (some ⟨v, 0, none⟩)) ∧ X'.cell? ⟨b3, 0, none⟩ = some (.int .i64 b.epoch) ∧ X'.cell? ⟨b3, 1, none⟩ = some (.int .i64 b.conf.slots) ∧ X'.cell? ⟨b3, 2, none⟩ = some (.int .i64 b.conf.size) ∧ X'.cell? ⟨b3, 3, none⟩ = some (.int .i64 b.conf.reserve) ∧ X'.cell? ⟨b3, 4, none⟩ = some (.int .i64 b.conf.work) ∧ X'.cell? ⟨b3, 5, none⟩ = some (.int .i64 b.conf.key) ∧ X'.cell? ⟨b3, 6, none⟩ = some (.int .i64 b.conf.value) ∧ X'.cell? ⟨b3, 7, none⟩ = some (.int .i64 b.conf.policy)) ((repeat' apply And.intro) <;> first | assumption | go_keep)
        (first
          | (go_at_call 45; refine (HCH.out _ (by assumption)).mono ?_; rintro e x4 ⟨rfl, hs4⟩; obtain ⟨e2, e30, e31, e32, e33, e34, e35, e36, e37⟩ := HCE.out _ hs4)
          | (go_at_call 39; refine (HD2.out _ (by assumption)).mono ?_; rintro e x5 ⟨rfl, rfl⟩))
      all_goals
        rw [HST.out] at hs4
        have HS4 := Lib.hid hs4
        clear hs4 e2 e30 e31 e32 e33 e34 e35 e36 e37 q2 q30 q31 q32 q33 q34 q35 q36 q37
        go_wp2_with fail
        go_ret
        have hz : Sep B w0 x4 (devOb v L X :: O1) := HS4.out
        rw [HO1.out] at hz
        rw [HX.out]
        exact ⟨rfl, L, hz.sub (.cons_cons _ (.cons _ (.cons _ (List.Sublist.refl _))))⟩
    | false =>
      have HX := Lib.hid (show writeX X b = if wE X b 0 ≠ 0 then (wE X b 0, wX X b 1) else if wE X b 1 ≠ 0 then (wE X b 1, wX X b 2) else (wE X b 2, wX X b 3) by
        unfold writeX
        rw [if_neg (by simpa using hok), hd, if_neg (by simp)])
      have HD2 : Hid (∀ W, STA W → Calls Tryz.prog 39 #[.pointer (some ⟨v, 0, none⟩), .bool true] W fun e w' => e = .returned (.int .i64 0) ∧ W = w') := fun W hW => by
        have := HDC.out W true hW
        unfold chkD at this
        rw [if_pos rfl, hd, if_neg (by simp)] at this
        exact this
      have HE6 := Lib.hid (HEN hok)
      have HOK := Lib.hid (okN_yes hok)
      rw [HOK.out] at HCH
      have hep : 1 ≤ b.epoch := hok.1.1
      obtain ⟨par, hpr⟩ : ∃ par : Nat, (b.epoch % 2).toNat = par := ⟨_, rfl⟩
      have hpar2 : par < 2 := by omega
      rw [hpr] at hws
      have hpar : b.epoch.tmod 2 = (par : Int) := by rw [Int.tmod_eq_emod_of_nonneg (by omega)]; omega
      have hwp : IntKind.i64.wrap (par : Int) = (par : Int) := by rw [IntKind.wrap_i64]; omega
      have hws2 : IntKind.i64.wrap ((X.n : Int) + (par : Int)) = (wslot X b : Int) := by rw [IntKind.wrap_i64, hws]; omega
      generalize hwse : wslot X b = s at hws hws2
      have HWS := Lib.hid hwse
      have HWP := Lib.hid (And.intro hpar (And.intro hwp hws2))
      clear HEN hok HDC hd hpr hpar hwp hws2 hws hwse HOK
      go_enter Tryz.func21, Tryz.ntmps21
      go_wp2_with fail
      rw [← hb3, ← hb2]
      rw [show (w.alloc (.cells #[.pointer (some ⟨v, 0, none⟩)] 24)).alloc (.cells #[.int .i64 b.epoch, .int .i64 b.conf.slots, .int .i64 b.conf.size, .int .i64 b.conf.reserve, .int .i64 b.conf.work, .int .i64 b.conf.key, .int .i64 b.conf.value, .int .i64 b.conf.policy] 33) = W1 from hW1.symm]
      clear hW1 hb2 hb3
      go_region_held3 (fun X' => X'.cell? ⟨b2, 0, none⟩ = some (.pointer (some ⟨v, 0, none⟩)) ∧ X'.cell? ⟨b3, 0, none⟩ = some (.int .i64 b.epoch) ∧ X'.cell? ⟨b3, 1, none⟩ = some (.int .i64 b.conf.slots) ∧ X'.cell? ⟨b3, 2, none⟩ = some (.int .i64 b.conf.size) ∧ X'.cell? ⟨b3, 3, none⟩ = some (.int .i64 b.conf.reserve) ∧ X'.cell? ⟨b3, 4, none⟩ = some (.int .i64 b.conf.work) ∧ X'.cell? ⟨b3, 5, none⟩ = some (.int .i64 b.conf.key) ∧ X'.cell? ⟨b3, 6, none⟩ = some (.int .i64 b.conf.value) ∧ X'.cell? ⟨b3, 7, none⟩ = some (.int .i64 b.conf.policy)) ((repeat' apply And.intro) <;> first | assumption | go_keep)
        (first
          | (go_at_call 45; refine (HCH.out _ (by assumption)).mono ?_; rintro e x4 ⟨rfl, hs4⟩; obtain ⟨e2, e30, e31, e32, e33, e34, e35, e36, e37⟩ := HCE.out _ hs4)
          | (go_at_call 39; refine (HD2.out _ (by assumption)).mono ?_; rintro e x5 ⟨rfl, rfl⟩))
      all_goals
        have sta4 := hs4
        rw [HST.out] at hs4
        have HS4 := Lib.hid hs4
        clear hs4 q2 q30 q31 q32 q33 q34 q35 q36 q37
        go_wp2_with fail
        refine (HE6.out _).mono ?_
        rintro e x6 ⟨g, cs, rfl, hg, hbk, hraw, hbel⟩
        obtain ⟨b6, hb6⟩ : ∃ b6, b6 = x6.heap.size := ⟨_, rfl⟩
        obtain ⟨W7, hW7⟩ : ∃ W7 : World, W7 = x6.alloc (.cells #[.slice (some ⟨g, 0, none⟩) 64 64] 23) := ⟨_, rfl⟩
        have hz : Sep B w0 x4 (devOb v L X :: O1) := HS4.out
        have HS7 : Hid (Sep B w0 W7 (devOb v L X :: blkOb b6 23 #[.slice (some ⟨g, 0, none⟩) 64 64] :: rawOb g b :: O1)) := by
          show Sep _ _ _ _
          rw [hW7]
          exact ((hz.add (a := rawOb g b) hbel ⟨cs, hbk, hraw⟩ (fun k hk => by have e : k = g := hk; omega)).newBlk b6 _ _ hb6).perm (List.perm_middle (l₁ := [_, _]))
        have hz7 := HS7.out
        rw [HO1.out] at hz7
        have k3 : Blk W7 b3 33 (bkCells b) := hz7.get (.tail _ (.tail _ (.tail _ (.head _))))
        have k2 : Blk W7 b2 24 #[.pointer (some ⟨v, 0, none⟩)] := hz7.get (.tail _ (.tail _ (.tail _ (.tail _ (.head _)))))
        have q2 : W7.cell? ⟨b2, 0, none⟩ = some (.pointer (some ⟨v, 0, none⟩)) := k2.cell 0
        have q30 : W7.cell? ⟨b3, 0, none⟩ = some (.int .i64 b.epoch) := k3.cell 0
        obtain ⟨STB, hSTB⟩ : ∃ STB : World → Prop, STB = fun W => Sep B w0 W (devOb v L X :: blkOb b6 23 #[.slice (some ⟨g, 0, none⟩) 64 64] :: rawOb g b :: O1) := ⟨_, rfl⟩
        have HSL : Hid (∀ W, STB W → Calls Tryz.prog 57 #[.pointer (some ⟨v, 0, none⟩)] W fun e w' => e = .returned (.int .i64 (X.n : Int)) ∧ W = w') := fun W hW => by
          rw [hSTB] at hW
          exact dev_slots (Sep.dev hW)
        have stb0 : STB W7.drew := by rw [hSTB]; exact HS7.out.drew
        clear hSTB
        obtain ⟨hpar, hwp, hws2⟩ := HWP.out
        clear sta4 e2 e30 e31 e32 e33 e34 e35 e36 e37 hg hbk hraw hbel hz hz7 k3 k2
        go_wp2_with fail
        rw [← hb6, ← hW7]
        clear hb6 hW7
        go_region_held3 (fun X' => X'.cell? ⟨b2, 0, none⟩ = some (.pointer (some ⟨v, 0, none⟩)) ∧ X'.cell? ⟨b3, 0, none⟩ = some (.int .i64 b.epoch)) ((repeat' apply And.intro) <;> first | assumption | go_keep)
          (first
            | (go_at_call 57; refine (HSL.out _ (by assumption)).mono ?_; rintro e x9 ⟨rfl, rfl⟩))
        obtain ⟨W8, hW8⟩ : ∃ W8, W8 = W7.drew := ⟨_, rfl⟩
        have HS8 : Hid (Sep B w0 W8 (devOb v L X :: blkOb b6 23 #[.slice (some ⟨g, 0, none⟩) 64 64] :: rawOb g b :: O1)) := by
          show Sep _ _ _ _
          rw [hW8]
          exact HS7.out.drew
        have q2' : W8.cell? ⟨b2, 0, none⟩ = some (.pointer (some ⟨v, 0, none⟩)) := by rw [hW8]; exact q2
        rw [← hW8]
        clear hW8 q2 q30 hpar hwp hws2
        go_wp2_with fail
        obtain ⟨bS, hbS⟩ : ∃ bS, bS = W8.heap.size := ⟨_, rfl⟩
        obtain ⟨FS, hFS⟩ : ∃ FS : Array Value, FS = #[.func (.func 28) #[.pointer (some ⟨v, 0, none⟩)] #[], .func (.func 64) #[] #[.pointer (some ⟨b2, 0, none⟩), .pointer (some ⟨b6, 0, none⟩)], .func (.func 65) #[.pointer (some ⟨v, 0, none⟩)] #[]] := ⟨_, rfl⟩
        obtain ⟨O2, hO2⟩ : ∃ O2 : List Ob, O2 = blkOb bS 67 FS :: blkOb b6 23 #[.slice (some ⟨g, 0, none⟩) 64 64] :: rawOb g b :: O1 := ⟨_, rfl⟩
        rw [← hbS]
        rw [show (#[.func (.func 28) #[.pointer (some ⟨v, 0, none⟩)] #[], .func (.func 64) #[] #[.pointer (some ⟨b2, 0, none⟩), .pointer (some ⟨b6, 0, none⟩)], .func (.func 65) #[.pointer (some ⟨v, 0, none⟩)] #[]] : Array Value) = FS from hFS.symm]
        obtain ⟨W9, hW9⟩ : ∃ W9 : World, W9 = W8.alloc (.cells FS 67) := ⟨_, rfl⟩
        rw [← hW9]
        have HS9 : Hid (Sep B w0 W9 (devOb v L X :: O2)) := by
          show Sep _ _ _ _
          rw [hW9, hO2]
          exact (HS8.out.newBlk bS _ _ hbS).perm (.swap _ _ _)
        have HC2 : Hid (AllCells O2) := by
          show AllCells O2
          rw [hO2]
          exact AllCells.cons (cellOb_blk _ _ _) (AllCells.cons (cellOb_blk _ _ _) (AllCells.cons (cellOb_raw _ _) HC1.out))
        have HM2 : Hid (blkOb b2 24 #[.pointer (some ⟨v, 0, none⟩)] ∈ O2 ∧ blkOb b6 23 #[.slice (some ⟨g, 0, none⟩) 64 64] ∈ O2 ∧ rawOb g b ∈ O2 ∧ blkOb bS 67 FS ∈ O2 ∧ os.Sublist O2) := by
          rw [hO2, HO1.out]
          exact ⟨.tail _ (.tail _ (.tail _ (.tail _ (.head _)))), .tail _ (.head _), .tail _ (.tail _ (.head _)), .head _, .cons _ (.cons _ (.cons _ (.cons _ (.cons _ (List.Sublist.refl _)))))⟩
        have HFS := Lib.hid hFS
        clear hbS hFS hO2 hW9 q2' HS8
        go_loopg [43] 3 (fun q v43 wr => ∃ (j : Nat), j + q = 3 ∧ v43 = .int .i64 (j : Int) ∧ (∃ L', Sep B w0 wr (devOb v L' (wX X b j) :: O2)) ∧ ∀ i, i < j → wE X b i = 0)
        case atStart => exact ⟨0, by omega, rfl, ⟨L, HS9.out⟩, fun i hi => absurd hi (Nat.not_lt_zero _)⟩
        case round =>
          obtain ⟨j, hj, rfl, ⟨L', hs⟩, hz⟩ := hrel
          have HJ := Lib.hid hj
          have HZ := Lib.hid hz
          have HS := Lib.hid hs
          have hbk : Blk wr bS 67 FS := hs.get (.tail _ HM2.out.2.2.2.1)
          have hjc : j = 0 ∨ j = 1 ∨ j = 2 ∨ j = 3 := by omega
          clear hj hz hs HS9
          rcases hjc with rfl | rfl | rfl | rfl
          · have qf : wr.cell? ⟨bS, 0, none⟩ = some (.func (.func 28) #[.pointer (some ⟨v, 0, none⟩)] #[]) := by rw [hbk.cell, HFS.out]; rfl
            have HCC := Lib.hid (sep_verase HS.out HC2.out (by have := wX_ops X b 0; omega) (s : Int))
            have he : oneVE (wX X b 0) (s : Int) = wE X b 0 := by rw [← HWS.out]; rfl
            have hx : EraseVX (wX X b 0) (s : Int) = wX X b 1 := by rw [← HWS.out]; rfl
            rw [he, hx] at HCC
            generalize hee : wE X b 0 = er at HCC
            have HEE := Lib.hid hee
            clear he hx hee hbk
            go_wp2_with fail
            refine HCC.out.mono ?_
            rintro e w11 ⟨rfl, L1, hs⟩
            have HS1 := Lib.hid hs
            clear hs qf HCC
            by_cases hr : er = 0
            · subst hr
              go_wp2_with fail
              go_roundg (gk - 1)
              case measure => have := HJ.out; omega
              case rel =>
                refine ⟨1, by have := HJ.out; omega, rfl, ⟨L1, HS1.out⟩, fun i hi => ?_⟩
                by_cases e : i = 0
                · rw [e]; exact HEE.out
                · exact HZ.out i (by omega)
            · have hb0 : (er == 0) = false := by rw [beq_eq_false_iff_ne]; exact hr
              have hfin : writeX X b = (er, wX X b 1) := by
                have hz := HZ.out
                have hE := HEE.out
                rw [HX.out]
                rw [hE, if_pos hr]
              have HFIN := Lib.hid hfin
              clear hr hfin
              go_wp2_with fail
              go_ret
              rw [HFIN.out]
              exact ⟨rfl, L1, HS1.out.sub (.cons_cons _ HM2.out.2.2.2.2)⟩
          · have qf : wr.cell? ⟨bS, 1, none⟩ = some (.func (.func 64) #[] #[.pointer (some ⟨b2, 0, none⟩), .pointer (some ⟨b6, 0, none⟩)]) := by rw [hbk.cell, HFS.out]; rfl
            have HCC := Lib.hid (dadd_any HS.out HC2.out (by have := wX_ops X b 1; omega) HM2.out.1 HM2.out.2.1 HM2.out.2.2.1 (s : Int))
            have he : appVE (wX X b 1) (s : Int) (encOf b) = wE X b 1 := by rw [← HWS.out]; rfl
            have hx : appVX (wX X b 1) (s : Int) (encOf b) = wX X b 2 := by rw [← HWS.out]; rfl
            rw [he, hx] at HCC
            generalize hee : wE X b 1 = er at HCC
            have HEE := Lib.hid hee
            clear he hx hee hbk
            go_wp2_with fail
            refine HCC.out.mono ?_
            rintro e w11 ⟨rfl, L1, hs⟩
            have HS1 := Lib.hid hs
            clear hs qf HCC
            by_cases hr : er = 0
            · subst hr
              go_wp2_with fail
              go_roundg (gk - 1)
              case measure => have := HJ.out; omega
              case rel =>
                refine ⟨2, by have := HJ.out; omega, rfl, ⟨L1, HS1.out⟩, fun i hi => ?_⟩
                by_cases e : i = 1
                · rw [e]; exact HEE.out
                · exact HZ.out i (by omega)
            · have hb0 : (er == 0) = false := by rw [beq_eq_false_iff_ne]; exact hr
              have hfin : writeX X b = (er, wX X b 2) := by
                have hz := HZ.out
                have hE := HEE.out
                rw [HX.out]
                rw [hz 0 (by omega), if_neg (by simp), hE, if_pos hr]
              have HFIN := Lib.hid hfin
              clear hr hfin
              go_wp2_with fail
              go_ret
              rw [HFIN.out]
              exact ⟨rfl, L1, HS1.out.sub (.cons_cons _ HM2.out.2.2.2.2)⟩
          · have qf : wr.cell? ⟨bS, 2, none⟩ = some (.func (.func 65) #[.pointer (some ⟨v, 0, none⟩)] #[]) := by rw [hbk.cell, HFS.out]; rfl
            have HCC := Lib.hid (sep_vsync HS.out HC2.out (by have := wX_ops X b 2; omega) (s : Int))
            have he : oneVE (wX X b 2) (s : Int) = wE X b 2 := by rw [← HWS.out]; rfl
            have hx : SyncVX (wX X b 2) (s : Int) = wX X b 3 := by rw [← HWS.out]; rfl
            rw [he, hx] at HCC
            generalize hee : wE X b 2 = er at HCC
            have HEE := Lib.hid hee
            clear he hx hee hbk
            go_wp2_with fail
            refine HCC.out.mono ?_
            rintro e w11 ⟨rfl, L1, hs⟩
            have HS1 := Lib.hid hs
            clear hs qf HCC
            by_cases hr : er = 0
            · subst hr
              go_wp2_with fail
              go_roundg (gk - 1)
              case measure => have := HJ.out; omega
              case rel =>
                refine ⟨3, by have := HJ.out; omega, rfl, ⟨L1, HS1.out⟩, fun i hi => ?_⟩
                by_cases e : i = 2
                · rw [e]; exact HEE.out
                · exact HZ.out i (by omega)
            · have hb0 : (er == 0) = false := by rw [beq_eq_false_iff_ne]; exact hr
              have hfin : writeX X b = (er, wX X b 3) := by
                have hz := HZ.out
                have hE := HEE.out
                rw [HX.out]
                rw [hz 0 (by omega), hz 1 (by omega), if_neg (by simp), if_neg (by simp), hE]
              have HFIN := Lib.hid hfin
              clear hr hfin
              go_wp2_with fail
              go_ret
              rw [HFIN.out]
              exact ⟨rfl, L1, HS1.out.sub (.cons_cons _ HM2.out.2.2.2.2)⟩
          · have hfin : writeX X b = (0, wX X b 3) := by
              have hz := HZ.out
              rw [HX.out, hz 0 (by omega), hz 1 (by omega), hz 2 (by omega), if_neg (by simp), if_neg (by simp)]
            have HFIN := Lib.hid hfin
            clear hfin hbk
            go_wp2_with fail
            go_ret
            rw [HFIN.out]
            exact ⟨rfl, L', HS.out.sub (.cons_cons _ HM2.out.2.2.2.2)⟩
  · have HX : Hid (writeX X b = (2, X)) := if_pos hok
    have HOK := Lib.hid (okN_no hok)
    rw [HOK.out] at HCH
    have HD2 : Hid (∀ W, STA W → Calls Tryz.prog 39 #[.pointer (some ⟨v, 0, none⟩), .bool false] W fun e w' => e = .returned (.int .i64 2) ∧ W = w') := fun W hW => HDC.out W false hW
    clear HEN hok hws HOK HDC
    go_enter Tryz.func21, Tryz.ntmps21
    go_wp2_with fail
    rw [← hb3, ← hb2]
    rw [show (w.alloc (.cells #[.pointer (some ⟨v, 0, none⟩)] 24)).alloc (.cells #[.int .i64 b.epoch, .int .i64 b.conf.slots, .int .i64 b.conf.size, .int .i64 b.conf.reserve, .int .i64 b.conf.work, .int .i64 b.conf.key, .int .i64 b.conf.value, .int .i64 b.conf.policy] 33) = W1 from hW1.symm]
    clear hW1 hb2 hb3
    go_region_held3 (fun X' => X'.cell? ⟨b2, 0, none⟩ = some (.pointer (some ⟨v, 0, none⟩)) ∧ X'.cell? ⟨b3, 0, none⟩ = some (.int .i64 b.epoch) ∧ X'.cell? ⟨b3, 1, none⟩ = some (.int .i64 b.conf.slots) ∧ X'.cell? ⟨b3, 2, none⟩ = some (.int .i64 b.conf.size) ∧ X'.cell? ⟨b3, 3, none⟩ = some (.int .i64 b.conf.reserve) ∧ X'.cell? ⟨b3, 4, none⟩ = some (.int .i64 b.conf.work) ∧ X'.cell? ⟨b3, 5, none⟩ = some (.int .i64 b.conf.key) ∧ X'.cell? ⟨b3, 6, none⟩ = some (.int .i64 b.conf.value) ∧ X'.cell? ⟨b3, 7, none⟩ = some (.int .i64 b.conf.policy)) ((repeat' apply And.intro) <;> first | assumption | go_keep)
      (first
        | (go_at_call 45; refine (HCH.out _ (by assumption)).mono ?_; rintro e x4 ⟨rfl, hs4⟩; obtain ⟨e2, e30, e31, e32, e33, e34, e35, e36, e37⟩ := HCE.out _ hs4)
        | (go_at_call 39; refine (HD2.out _ (by assumption)).mono ?_; rintro e x5 ⟨rfl, rfl⟩))
    all_goals
      rw [HST.out] at hs4
      have HS4 := Lib.hid hs4
      clear hs4 e2 e30 e31 e32 e33 e34 e35 e36 e37 q2 q30 q31 q32 q33 q34 q35 q36 q37
      go_wp2_with fail
      go_ret
      have hz : Sep B w0 x4 (devOb v L X :: O1) := HS4.out
      rw [HO1.out] at hz
      rw [HX.out]
      exact ⟨rfl, L, hz.sub (.cons_cons _ (.cons _ (.cons _ (List.Sublist.refl _))))⟩
end
end Go.Proofs.YtnopljanpjmbgaaGreat
namespace Go.Proofs.YtnopljanpjmbgaaGreat
open Go.RowKit Go.Shelf Drum
set_option linter.unusedVariables false
theorem wE_ops (X : DevD) (b : Bk) : (writeX X b).2.ops ≤ X.ops + 3 := by
  unfold writeX
  split
  · exact Nat.le_add_right _ _
  · split
    · exact Nat.le_add_right _ _
    · split
      · exact wX_ops X b 1
      · split
        · exact wX_ops X b 2
        · exact wX_ops X b 3
theorem bk_wf (c : Cf) (h : c.wf) (e : Int) (he : -9223372036854775808 ≤ e ∧ e ≤ 9223372036854775807) : Bk.wf ⟨e, c⟩ := ⟨he, h⟩
section
variable {B : Nat} {w0 w w' : World} {os : List Ob} {v : Nat} {L : DLay} {X : DevD}
set_option maxRecDepth 100000 in
set_option maxHeartbeats 8000000 in
theorem sep_dbegin (h : Sep B w0 w (devOb v L X :: os)) (hC : AllCells os) (hops : X.ops < 4611686018427380000) (c : Cf) (hc : c.wf) :
    Calls Tryz.prog 18 #[.pointer (some ⟨v, 0, none⟩), .agg #[.int .i64 c.slots, .int .i64 c.size, .int .i64 c.reserve, .int .i64 c.work, .int .i64 c.key, .int .i64 c.value, .int .i64 c.policy]] w fun e w' => e = .returned (.int .i64 (beginX X c).1) ∧ ∃ L', Sep B w0 w' (devOb v L' (beginX X c).2 :: os) := by
  obtain ⟨b3, hb3⟩ : ∃ b3, b3 = w.heap.size := ⟨_, rfl⟩
  obtain ⟨W1, hW1⟩ : ∃ W1 : World, W1 = w.alloc (.cells #[.int .i64 c.slots, .int .i64 c.size, .int .i64 c.reserve, .int .i64 c.work, .int .i64 c.key, .int .i64 c.value, .int .i64 c.policy] 26) := ⟨_, rfl⟩
  obtain ⟨O1, hO1⟩ : ∃ O1 : List Ob, O1 = blkOb b3 26 #[.int .i64 c.slots, .int .i64 c.size, .int .i64 c.reserve, .int .i64 c.work, .int .i64 c.key, .int .i64 c.value, .int .i64 c.policy] :: os := ⟨_, rfl⟩
  have HS1 : Hid (Sep B w0 W1 (devOb v L X :: O1)) := by
    show Sep _ _ _ _
    rw [hW1, hO1]
    exact (h.newBlk b3 _ _ hb3).perm (.swap _ _ _)
  have HC1 : Hid (AllCells O1) := by
    show AllCells O1
    rw [hO1]
    exact AllCells.cons (cellOb_blk _ _ _) hC
  have HM1 : Hid (blkOb b3 26 #[.int .i64 c.slots, .int .i64 c.size, .int .i64 c.reserve, .int .i64 c.work, .int .i64 c.key, .int .i64 c.value, .int .i64 c.policy] ∈ O1 ∧ os.Sublist O1) := by
    rw [hO1]
    exact ⟨.head _, .cons _ (List.Sublist.refl _)⟩
  obtain ⟨STA, hSTA⟩ : ∃ STA : World → Prop, STA = fun W => Sep B w0 W (devOb v L X :: O1) := ⟨_, rfl⟩
  have HCE : Hid (∀ (W : World) (L' : DLay) (Y : DevD), Sep B w0 W (devOb v L' Y :: O1) → W.cell? ⟨b3, 0, none⟩ = some (.int .i64 c.slots) ∧ W.cell? ⟨b3, 1, none⟩ = some (.int .i64 c.size) ∧ W.cell? ⟨b3, 2, none⟩ = some (.int .i64 c.reserve) ∧ W.cell? ⟨b3, 3, none⟩ = some (.int .i64 c.work) ∧ W.cell? ⟨b3, 4, none⟩ = some (.int .i64 c.key) ∧ W.cell? ⟨b3, 5, none⟩ = some (.int .i64 c.value) ∧ W.cell? ⟨b3, 6, none⟩ = some (.int .i64 c.policy)) := fun W L' Y hW => by
    have k3 : Blk W b3 26 #[.int .i64 c.slots, .int .i64 c.size, .int .i64 c.reserve, .int .i64 c.work, .int .i64 c.key, .int .i64 c.value, .int .i64 c.policy] := hW.get (.tail _ HM1.out.1)
    exact ⟨k3.cell 0, k3.cell 1, k3.cell 2, k3.cell 3, k3.cell 4, k3.cell 5, k3.cell 6⟩
  have HCX : Hid (∀ W, STA W → W.cell? ⟨b3, 0, none⟩ = some (.int .i64 c.slots) ∧ W.cell? ⟨b3, 1, none⟩ = some (.int .i64 c.size) ∧ W.cell? ⟨b3, 2, none⟩ = some (.int .i64 c.reserve) ∧ W.cell? ⟨b3, 3, none⟩ = some (.int .i64 c.work) ∧ W.cell? ⟨b3, 4, none⟩ = some (.int .i64 c.key) ∧ W.cell? ⟨b3, 5, none⟩ = some (.int .i64 c.value) ∧ W.cell? ⟨b3, 6, none⟩ = some (.int .i64 c.policy)) := fun W hW => by rw [hSTA] at hW; exact HCE.out W L X hW
  have sta1 : STA W1.drew := by rw [hSTA]; exact HS1.out.drew
  have HCH : Hid (∀ W, STA W → Calls Tryz.prog 56 #[.agg #[.int .i64 c.slots, .int .i64 c.size, .int .i64 c.reserve, .int .i64 c.work, .int .i64 c.key, .int .i64 c.value, .int .i64 c.policy]] W fun e w' => e = .returned (.int .i64 (okN c.ok)) ∧ STA w') := fun W hW => by
    refine (cfCheck_ok c hc W).mono ?_
    rintro e w' ⟨h1, h2⟩
    rw [hSTA] at hW ⊢
    exact ⟨h1, Sep.below hW h2⟩
  have HSL : Hid (∀ W, STA W → Calls Tryz.prog 57 #[.pointer (some ⟨v, 0, none⟩)] W fun e w' => e = .returned (.int .i64 (X.n : Int)) ∧ W = w') := fun W hW => by
    rw [hSTA] at hW
    exact dev_slots (Sep.dev hW)
  have HDC : Hid (∀ W al, STA W → Calls Tryz.prog 39 #[.pointer (some ⟨v, 0, none⟩), .bool al] W fun e w' => e = .returned (.int .i64 (chkD X al)) ∧ W = w') := fun W al hW => by
    rw [hSTA] at hW
    exact dcheck_any (Sep.dev hW) al
  have HST := Lib.hid hSTA
  obtain ⟨q30, q31, q32, q33, q34, q35, q36⟩ := HCE.out _ _ _ HS1.out
  have hn32 := h.dev.ok.n32
  clear h hC hSTA hO1
  by_cases hok : c.ok
  · by_cases hsl : c.slots = (X.n : Int)
    · cases hd : X.down with
      | true =>
        have HX := Lib.hid (show beginX X c = (13, X) by
          unfold beginX
          rw [if_neg (fun e => e ⟨hok, hsl⟩), if_pos hd])
        have HOK := Lib.hid (okN_yes hok)
        rw [HOK.out] at HCH
        have hb0 : (c.slots == (X.n : Int)) = true := by rw [beq_iff_eq]; exact hsl
        have HD2 : Hid (∀ W, STA W → Calls Tryz.prog 39 #[.pointer (some ⟨v, 0, none⟩), .bool true] W fun e w' => e = .returned (.int .i64 13) ∧ W = w') := fun W hW => by
          have := HDC.out W true hW
          unfold chkD at this
          rw [if_pos rfl, hd, if_pos rfl] at this
          exact this
        clear hok hsl HOK HDC hd
        go_enter Tryz.func18, Tryz.ntmps18
        go_wp2_with fail
        rw [← hb3]
        rw [show w.alloc (.cells #[.int .i64 c.slots, .int .i64 c.size, .int .i64 c.reserve, .int .i64 c.work, .int .i64 c.key, .int .i64 c.value, .int .i64 c.policy] 26) = W1 from hW1.symm]
        clear hW1 hb3
        go_region_held3 (fun X' => X'.cell? ⟨b3, 0, none⟩ = some (.int .i64 c.slots) ∧ X'.cell? ⟨b3, 1, none⟩ = some (.int .i64 c.size) ∧ X'.cell? ⟨b3, 2, none⟩ = some (.int .i64 c.reserve) ∧ X'.cell? ⟨b3, 3, none⟩ = some (.int .i64 c.work) ∧ X'.cell? ⟨b3, 4, none⟩ = some (.int .i64 c.key) ∧ X'.cell? ⟨b3, 5, none⟩ = some (.int .i64 c.value) ∧ X'.cell? ⟨b3, 6, none⟩ = some (.int .i64 c.policy)) ((repeat' apply And.intro) <;> first | assumption | go_keep)
          (first
            | (go_at_call 56; refine (HCH.out _ (by assumption)).mono ?_; rintro e x4 ⟨rfl, hs4⟩; obtain ⟨e30, e31, e32, e33, e34, e35, e36⟩ := HCX.out _ hs4)
            | (go_at_call 57; refine (HSL.out _ (by assumption)).mono ?_; rintro e x5 ⟨rfl, rfl⟩)
            | (go_at_call 39; refine (HD2.out _ (by assumption)).mono ?_; rintro e x5 ⟨rfl, rfl⟩))
        all_goals
          rw [HST.out] at hs4
          have HS4 : Hid (Sep B w0 x4 (devOb v L X :: O1)) := hs4
          clear hs4 e30 e31 e32 e33 e34 e35 e36 q30 q31 q32 q33 q34 q35 q36
          go_wp2_with fail
          go_ret
          rw [HX.out]
          exact ⟨rfl, L, HS4.out.sub (.cons_cons _ HM1.out.2)⟩
      | false =>
        have HX := Lib.hid (show beginX X c = if 0 < (cpL X 0).length ∨ 0 < (cpL X 1).length then (6, X) else if (writeX X ⟨1, c⟩).1 ≠ 0 then writeX X ⟨1, c⟩ else writeX (writeX X ⟨1, c⟩).2 ⟨2, c⟩ by
          unfold beginX
          rw [if_neg (fun e => e ⟨hok, hsl⟩), hd, if_neg (by simp)])
        have HOK := Lib.hid (okN_yes hok)
        rw [HOK.out] at HCH
        have hb0 : (c.slots == (X.n : Int)) = true := by rw [beq_iff_eq]; exact hsl
        have HD2 : Hid (∀ W, STA W → Calls Tryz.prog 39 #[.pointer (some ⟨v, 0, none⟩), .bool true] W fun e w' => e = .returned (.int .i64 0) ∧ W = w') := fun W hW => by
          have := HDC.out W true hW
          unfold chkD at this
          rw [if_pos rfl, hd, if_neg (by simp)] at this
          exact this
        clear hok hsl HOK HDC
        have hup := hd
        go_enter Tryz.func18, Tryz.ntmps18
        go_wp2_with fail
        rw [← hb3]
        rw [show w.alloc (.cells #[.int .i64 c.slots, .int .i64 c.size, .int .i64 c.reserve, .int .i64 c.work, .int .i64 c.key, .int .i64 c.value, .int .i64 c.policy] 26) = W1 from hW1.symm]
        clear hW1 hb3
        go_region_held3 (fun X' => X'.cell? ⟨b3, 0, none⟩ = some (.int .i64 c.slots) ∧ X'.cell? ⟨b3, 1, none⟩ = some (.int .i64 c.size) ∧ X'.cell? ⟨b3, 2, none⟩ = some (.int .i64 c.reserve) ∧ X'.cell? ⟨b3, 3, none⟩ = some (.int .i64 c.work) ∧ X'.cell? ⟨b3, 4, none⟩ = some (.int .i64 c.key) ∧ X'.cell? ⟨b3, 5, none⟩ = some (.int .i64 c.value) ∧ X'.cell? ⟨b3, 6, none⟩ = some (.int .i64 c.policy)) ((repeat' apply And.intro) <;> first | assumption | go_keep)
          (first
            | (go_at_call 56; refine (HCH.out _ (by assumption)).mono ?_; rintro e x4 ⟨rfl, hs4⟩; obtain ⟨e30, e31, e32, e33, e34, e35, e36⟩ := HCX.out _ hs4)
            | (go_at_call 57; refine (HSL.out _ (by assumption)).mono ?_; rintro e x5 ⟨rfl, rfl⟩)
            | (go_at_call 39; refine (HD2.out _ (by assumption)).mono ?_; rintro e x5 ⟨rfl, rfl⟩))
        all_goals
          rw [HST.out] at hs4
          have HS4 : Hid (Sep B w0 x4 (devOb v L X :: O1)) := hs4
          clear hs4 e30 e31 e32 e33 e34 e35 e36 q30 q31 q32 q33 q34 q35 q36
          clear hb0
          go_wp2_with fail
          go_loopg [26] 2 (fun q v26 wr => ∃ (i : Nat), i + q = 2 ∧ v26 = .int .i64 (i : Int) ∧ Sep B w0 wr (devOb v L X :: O1) ∧ ∀ k, k < i → (cpL X k).length = 0)
          case atStart => exact ⟨0, by omega, rfl, HS4.out, fun k hk => absurd hk (Nat.not_lt_zero _)⟩
          case round =>
            obtain ⟨i, hi, rfl, hs, hz⟩ := hrel
            have HK := Lib.hid hi
            have HS5 := Lib.hid hs
            have HZ := Lib.hid hz
            have hi2 : i ≤ 2 := by omega
            clear hi hs hz
            by_cases hlt : i < 2
            · have HLN := Lib.hid (cp_len HS5.out.dev hup i hlt ((X.n : Int) + (i : Int)) (by omega))
              have HS0 := Lib.hid (dev_slots HS5.out.dev)
              generalize hm : (cpL X i).length = m at HLN
              have HM := Lib.hid hm
              clear hm
              go_wp2_with fail
              refine HS0.out.mono ?_
              rintro e w6 ⟨rfl, rfl⟩
              go_wp2_with fail
              refine HLN.out.mono ?_
              rintro e w7 ⟨rfl, hb⟩
              have HS7 := Lib.hid (HS5.out.below hb)
              clear hb HLN HS0
              by_cases h0 : 0 < m
              · have hb0 : decide ((0 : Int) < (m : Int)) = true := by simpa using h0
                have hX6 : beginX X c = (6, X) := by
                  have hm := HM.out
                  rw [HX.out, if_pos]
                  have : i = 0 ∨ i = 1 := by omega
                  rcases this with rfl | rfl
                  · exact .inl (by omega)
                  · exact .inr (by omega)
                have HX6 := Lib.hid hX6
                clear hX6
                go_wp2_with fail
                go_ret
                rw [HX6.out]
                exact ⟨rfl, L, HS7.out.sub (.cons_cons _ HM1.out.2)⟩
              · have hm0 : m = 0 := by omega
                subst hm0
                go_wp2_with fail
                go_roundg (gk - 1)
                case measure => have := HK.out; omega
                case rel =>
                  refine ⟨i + 1, by have := HK.out; omega, by go_num, HS7.out, fun k hk => ?_⟩
                  by_cases e : k = i
                  · rw [e]; exact HM.out
                  · exact HZ.out k (by omega)
            · have hl0 := HZ.out 0 (by omega)
              have hl1 := HZ.out 1 (by omega)
              have HX2 := Lib.hid (show beginX X c = if (writeX X ⟨1, c⟩).1 ≠ 0 then writeX X ⟨1, c⟩ else writeX (writeX X ⟨1, c⟩).2 ⟨2, c⟩ by
                rw [HX.out, if_neg (by omega)])
              clear hl0 hl1
              go_wp2_with fail
              go_loopg [41] 2 (fun q v41 wr => ∃ (i : Nat), i + q = 2 ∧ v41 = .int .i64 (i : Int) ∧ ((i = 0 ∧ ∃ L', Sep B w0 wr (devOb v L' X :: O1)) ∨ (i = 1 ∧ (writeX X ⟨1, c⟩).1 = 0 ∧ ∃ L', Sep B w0 wr (devOb v L' (writeX X ⟨1, c⟩).2 :: O1)) ∨ (i = 2 ∧ (writeX X ⟨1, c⟩).1 = 0 ∧ (writeX (writeX X ⟨1, c⟩).2 ⟨2, c⟩).1 = 0 ∧ ∃ L', Sep B w0 wr (devOb v L' (writeX (writeX X ⟨1, c⟩).2 ⟨2, c⟩).2 :: O1))))
              case atStart => exact ⟨0, by omega, rfl, .inl ⟨rfl, L, HS5.out⟩⟩
              case round =>
                obtain ⟨j, hj, rfl, hst⟩ := hrel
                have HJ := Lib.hid hj
                clear hj
                rcases hst with ⟨rfl, L1, hs⟩ | ⟨rfl, he1, L1, hs⟩ | ⟨rfl, he1, he2, L1, hs⟩
                · have HWR := Lib.hid (sep_dwrite hs HC1.out (by omega) ⟨1, c⟩ (bk_wf c hc _ (by omega)))
                  obtain ⟨q30, q31, q32, q33, q34, q35, q36⟩ := HCE.out _ _ _ hs
                  generalize hee : (writeX X ⟨1, c⟩).1 = er at HWR
                  generalize hxx : (writeX X ⟨1, c⟩).2 = Z at HWR
                  have HEE := Lib.hid hee
                  have HXX := Lib.hid hxx
                  skip
                  clear hs hee hxx 
                  go_wp2_with fail
                  refine HWR.out.mono ?_
                  rintro e w8 ⟨rfl, L2, hs⟩
                  have HS8 := Lib.hid hs
                  clear hs HWR q30 q31 q32 q33 q34 q35 q36
                  by_cases hr : er = 0
                  · subst hr
                    go_wp2_with fail
                    go_roundg (gk - 1)
                    case measure => have := HJ.out; omega
                    case rel =>
                      refine ⟨1, by have := HJ.out; omega, rfl, ?_⟩
                      exact .inr (.inl ⟨rfl, HEE.out, L2, by rw [HXX.out]; exact HS8.out⟩)
                  · have hb0 : (er == 0) = false := by rw [beq_eq_false_iff_ne]; exact hr
                    have hfin : beginX X c = (er, Z) := by
                      rw [HX2.out]
                      rw [if_pos (by rw [HEE.out]; exact hr)]; exact Prod.ext HEE.out HXX.out
                    have HFIN := Lib.hid hfin
                    clear hr hfin
                    go_wp2_with fail
                    go_ret
                    rw [HFIN.out]
                    exact ⟨rfl, L2, HS8.out.sub (.cons_cons _ HM1.out.2)⟩
                · have HWR := Lib.hid (sep_dwrite hs HC1.out (by have := wE_ops X ⟨1, c⟩; omega) ⟨2, c⟩ (bk_wf c hc _ (by omega)))
                  obtain ⟨q30, q31, q32, q33, q34, q35, q36⟩ := HCE.out _ _ _ hs
                  generalize hee : (writeX (writeX X ⟨1, c⟩).2 ⟨2, c⟩).1 = er at HWR
                  generalize hxx : (writeX (writeX X ⟨1, c⟩).2 ⟨2, c⟩).2 = Z at HWR
                  have HEE := Lib.hid hee
                  have HXX := Lib.hid hxx
                  have HE1 := Lib.hid he1
                  clear hs hee hxx he1
                  go_wp2_with fail
                  refine HWR.out.mono ?_
                  rintro e w8 ⟨rfl, L2, hs⟩
                  have HS8 := Lib.hid hs
                  clear hs HWR q30 q31 q32 q33 q34 q35 q36
                  by_cases hr : er = 0
                  · subst hr
                    go_wp2_with fail
                    go_roundg (gk - 1)
                    case measure => have := HJ.out; omega
                    case rel =>
                      refine ⟨2, by have := HJ.out; omega, rfl, ?_⟩
                      exact .inr (.inr ⟨rfl, HE1.out, HEE.out, L2, by rw [HXX.out]; exact HS8.out⟩)
                  · have hb0 : (er == 0) = false := by rw [beq_eq_false_iff_ne]; exact hr
                    have hfin : beginX X c = (er, Z) := by
                      rw [HX2.out]
                      rw [if_neg (by rw [HE1.out]; simp)]; exact Prod.ext HEE.out HXX.out
                    have HFIN := Lib.hid hfin
                    clear hr hfin
                    go_wp2_with fail
                    go_ret
                    rw [HFIN.out]
                    exact ⟨rfl, L2, HS8.out.sub (.cons_cons _ HM1.out.2)⟩
                · have hfin : beginX X c = (0, (writeX (writeX X ⟨1, c⟩).2 ⟨2, c⟩).2) := by
                    rw [HX2.out, if_neg (by rw [he1]; simp)]
                    exact Prod.ext he2 rfl
                  have HFIN := Lib.hid hfin
                  have HS8 := Lib.hid hs
                  clear hfin he1 he2 hs
                  go_wp2_with fail
                  go_ret
                  rw [HFIN.out]
                  exact ⟨rfl, L1, HS8.out.sub (.cons_cons _ HM1.out.2)⟩
    · have HX := Lib.hid (show beginX X c = (2, X) from if_pos (fun e => hsl e.2))
      have HOK := Lib.hid (okN_yes hok)
      rw [HOK.out] at HCH
      have hb0 : (c.slots == (X.n : Int)) = false := by rw [beq_eq_false_iff_ne]; exact hsl
      have HD2 : Hid (∀ W, STA W → Calls Tryz.prog 39 #[.pointer (some ⟨v, 0, none⟩), .bool false] W fun e w' => e = .returned (.int .i64 2) ∧ W = w') := fun W hW => by
        have := HDC.out W false hW
        unfold chkD at this
        rw [if_neg (by simp)] at this
        exact this
      clear hok hsl HOK HDC
      go_enter Tryz.func18, Tryz.ntmps18
      go_wp2_with fail
      rw [← hb3]
      rw [show w.alloc (.cells #[.int .i64 c.slots, .int .i64 c.size, .int .i64 c.reserve, .int .i64 c.work, .int .i64 c.key, .int .i64 c.value, .int .i64 c.policy] 26) = W1 from hW1.symm]
      clear hW1 hb3
      go_region_held3 (fun X' => X'.cell? ⟨b3, 0, none⟩ = some (.int .i64 c.slots) ∧ X'.cell? ⟨b3, 1, none⟩ = some (.int .i64 c.size) ∧ X'.cell? ⟨b3, 2, none⟩ = some (.int .i64 c.reserve) ∧ X'.cell? ⟨b3, 3, none⟩ = some (.int .i64 c.work) ∧ X'.cell? ⟨b3, 4, none⟩ = some (.int .i64 c.key) ∧ X'.cell? ⟨b3, 5, none⟩ = some (.int .i64 c.value) ∧ X'.cell? ⟨b3, 6, none⟩ = some (.int .i64 c.policy)) ((repeat' apply And.intro) <;> first | assumption | go_keep)
        (first
          | (go_at_call 56; refine (HCH.out _ (by assumption)).mono ?_; rintro e x4 ⟨rfl, hs4⟩; obtain ⟨e30, e31, e32, e33, e34, e35, e36⟩ := HCX.out _ hs4)
          | (go_at_call 57; refine (HSL.out _ (by assumption)).mono ?_; rintro e x5 ⟨rfl, rfl⟩)
          | (go_at_call 39; refine (HD2.out _ (by assumption)).mono ?_; rintro e x5 ⟨rfl, rfl⟩))
      all_goals
        rw [HST.out] at hs4
        have HS4 : Hid (Sep B w0 x4 (devOb v L X :: O1)) := hs4
        clear hs4 e30 e31 e32 e33 e34 e35 e36 q30 q31 q32 q33 q34 q35 q36
        go_wp2_with fail
        go_ret
        rw [HX.out]
        exact ⟨rfl, L, HS4.out.sub (.cons_cons _ HM1.out.2)⟩
  · have HX := Lib.hid (show beginX X c = (2, X) from if_pos (fun e => hok e.1))
    have HOK := Lib.hid (okN_no hok)
    rw [HOK.out] at HCH
    have HD2 : Hid (∀ W, STA W → Calls Tryz.prog 39 #[.pointer (some ⟨v, 0, none⟩), .bool false] W fun e w' => e = .returned (.int .i64 2) ∧ W = w') := fun W hW => by
      have := HDC.out W false hW
      unfold chkD at this
      rw [if_neg (by simp)] at this
      exact this
    clear hok HOK HDC
    go_enter Tryz.func18, Tryz.ntmps18
    go_wp2_with fail
    rw [← hb3]
    rw [show w.alloc (.cells #[.int .i64 c.slots, .int .i64 c.size, .int .i64 c.reserve, .int .i64 c.work, .int .i64 c.key, .int .i64 c.value, .int .i64 c.policy] 26) = W1 from hW1.symm]
    clear hW1 hb3
    first
      | (go_region_with (first
          | (go_at_call 56; refine (HCH.out _ (by assumption)).mono ?_; rintro e x4 ⟨rfl, hs4⟩; obtain ⟨e30, e31, e32, e33, e34, e35, e36⟩ := HCX.out _ hs4)
          | (go_at_call 39; refine (HD2.out _ (by assumption)).mono ?_; rintro e x5 ⟨rfl, rfl⟩)))
      | fail
    all_goals
      rw [HST.out] at hs4
      have HS4 : Hid (Sep B w0 x4 (devOb v L X :: O1)) := hs4
      clear hs4 e30 e31 e32 e33 e34 e35 e36 q30 q31 q32 q33 q34 q35 q36
      go_wp2_with fail
      go_ret
      rw [HX.out]
      exact ⟨rfl, L, HS4.out.sub (.cons_cons _ HM1.out.2)⟩
end
end Go.Proofs.YtnopljanpjmbgaaGreat

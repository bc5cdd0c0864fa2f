/-
  A device's New; A device's Copy; A device's Append and Arm on what a call has built itself; Values that hold numbers; A device's methods on a device that is nil, or was not made by New.
-/
import Derived.Test.YtnopljanpjmbgaaGreatMH
import Derived.Test.YtnopljanpjmbgaaGreatMG
import Derived.Test.YtnopljanpjmbgaaGreatMC
namespace Go.Proofs.YtnopljanpjmbgaaGreat
open Go.RowKit Go.Shelf
set_option linter.unusedVariables false
def newVD (n size : Nat) : DevD := ⟨n, fun i => ⟨if i < n then size else 64, [], 0⟩, none, 0, false⟩
/-- Numbers that New takes. -/
def okNew (a b : Int) : Prop := (2 ≤ a ∧ a ≤ 32) ∧ 1 ≤ b ∧ b ≤ 8192
instance (a b : Int) : Decidable (okNew a b) := by unfold okNew; infer_instance
def newZ (n : Nat) (size : Int) : List Int := List.replicate n size ++ [64, 64]
theorem newZ_length (n : Nat) (size : Int) : (newZ n size).length = n + 2 := by simp [newZ]
theorem newZ_ok (n : Nat) (size : Int) (hn : 1 ≤ n) : (∀ z ∈ newZ n size, okSize z) ↔ (1 ≤ size ∧ size ≤ 8192) := by
  unfold newZ okSize
  constructor
  · intro h
    exact h size (List.mem_append.2 (.inl (by simp; omega)))
  · intro h z hz
    rcases List.mem_append.1 hz with hz | hz
    · rw [List.eq_of_mem_replicate hz]; exact h
    · simp at hz; omega
theorem newZ_D (n size : Nat) : ∀ i, i < n + 2 → (newVD n size).D i = newD (newZ n (size : Int)) i := by
  intro i hi
  unfold newVD newD newZ
  dsimp only
  by_cases h : i < n
  · rw [if_pos h, List.getD_eq_getElem?_getD, List.getElem?_append_left (by simp; exact h)]
    simp [h]
  · rw [if_neg h, List.getD_eq_getElem?_getD, List.getElem?_append_right (by simp; omega)]
    have : i = n ∨ i = n + 1 := by omega
    rcases this with rfl | rfl <;> simp
theorem newVD_ok (n size : Nat) (h1 : 2 ≤ n) (h2 : n ≤ 32) : (newVD n size).Ok := ⟨h1, h2, OkP.none_⟩
/-- What New gives. -/
def VNewQ (w : World) (a b : Int) (e : Ending) (w' : World) : Prop :=
  (okNew a b ∧ ∃ v L, e = .returned (.tuple #[.pointer (some ⟨v, 0, none⟩), .int .i64 0]) ∧ IsDev w' v L (newVD a.toNat b.toNat) ∧ (∀ k, vfoot v L (newVD a.toNat b.toNat) k → w.heap.size ≤ k) ∧ Below w.heap.size w w') ∨
    (¬ okNew a b ∧ e = .returned (.tuple #[.pointer none, .int .i64 2]) ∧ Below w.heap.size w w')
set_option maxRecDepth 100000 in
set_option maxHeartbeats 4000000 in
theorem newdev_any (a b : Int) (w : World) :
    Calls Tryz.prog 16 #[.int .i64 a, .int .i64 b] w (VNewQ w a b) := by
  by_cases h1 : a < 2
  · go_enter Tryz.func16, Tryz.ntmps16
    go_wp2_with fail
    go_ret2
    exact .inr ⟨fun h => by have := h.1.1; omega, rfl, Below.refl _ _⟩
  by_cases h2 : 32 < a
  · go_enter Tryz.func16, Tryz.ntmps16
    go_wp2_with fail
    go_ret2
    exact .inr ⟨fun h => by have := h.1.2; omega, rfl, Below.refl _ _⟩
  obtain ⟨n, rfl⟩ : ∃ n : Nat, a = (n : Int) := ⟨a.toNat, by omega⟩
  have hn2 : 2 ≤ n := by omega
  have hn32 : n ≤ 32 := by omega
  have d1 : decide ((n : Int) < 2) = false := by simp; omega
  have d2 : decide ((32 : Int) < (n : Int)) = false := by simp; omega
  obtain ⟨i0, hi0, hz0, hz1, hz2⟩ := info_parts clone_int_info
  obtain ⟨W1, hW1⟩ : ∃ W1, W1 = w.alloc (.cells #[.int .i64 b] 3) := ⟨_, rfl⟩
  have hb1 : Below w.heap.size w W1 := by rw [hW1]; exact (Below.refl _ _).alloc (Nat.le_refl _) _
  have hz1' : W1.heap.size = w.heap.size + 1 := by rw [hW1]; simp
  have HREP := Lib.hid (irepeat_any (w := W1) (A := ⟨w.heap.size, 0, none⟩) (c := 1) (b := b) (by show w.heap.size < _; omega) (by rw [hW1]; exact (Blk.new w _ _).cell 0) n (by omega) (by omega))
  have HB1 := Lib.hid hb1
  have HZ1 := Lib.hid hz1'
  rw [hW1] at HREP
  have HW1 := Lib.hid hW1
  clear h1 h2 hb1 hz1' hW1
  go_enter Tryz.func16, Tryz.ntmps16
  go_wp2_with fail
  refine HREP.out.mono ?_
  rintro e w2 ⟨cs, rfl, hblk, hsz, hcs, hb2⟩
  rw [← HW1.out] at hblk hb2 ⊢
  have hown : w2.ownsRow w.heap.size 3 1 (.slice (some ⟨W1.heap.size, 0, none⟩) n n) n (ints (List.replicate n b)) := by
    refine ⟨by simp [ints], .inr ⟨W1.heap.size, n, cs, rfl, by rw [HZ1.out]; omega, hblk, Nat.le_refl _, by unfold maxLen; omega, by omega, ?_⟩⟩
    apply List.ext_getElem?
    intro j
    rw [List.getElem?_take, Array.getElem?_toList]
    by_cases hj : j < n
    · rw [if_pos (by omega), hcs j hj]
      simp [ints, hj]
    · rw [if_neg (by omega)]
      simp [ints, hj]
  have hs2 : W1.heap.size < w2.heap.size := hblk.lt
  have HO := Lib.hid hown
  have HB2 : Hid (Below w.heap.size w w2) := HB1.out.trans (hb2.mono HB1.out.size)
  obtain ⟨g, hg⟩ : ∃ g, g = W1.heap.size := ⟨_, rfl⟩
  rw [← hg] at HO hs2
  have HG := Lib.hid hg
  rw [← hg]
  have HS2 := Lib.hid hs2
  have hown3 : (w2.alloc (.cells #[.int .i64 64, .int .i64 64] 3)).ownsRow w.heap.size 3 1 (.slice (some ⟨g, 0, none⟩) n n) n (ints (List.replicate n b)) := own_below' HO.out ((Below.refl _ _).alloc (Nat.le_refl _) _)
  have HO3 := Lib.hid hown3
  have HR64 : Hid (Reads (w2.alloc (.cells #[.int .i64 64, .int .i64 64] 3)) (w2.heap.size + 1) 1 (some ⟨w2.heap.size, 0, none⟩) 2 (ints [64, 64])) := nums_new w2 (0, 0) [64, 64] 2 _ rfl rfl
  have HB3 : Hid (Below w.heap.size w (w2.alloc (.cells #[.int .i64 64, .int .i64 64] 3))) := HB2.out.alloc HB2.out.size _
  have hn34 : n + 2 ≤ maxLen := by unfold maxLen; omega
  clear hblk hsz hcs hb2 hown hown3 HREP hs2 hg
  go_wp2_with (at_builtin
               refine wpList_append_g _ rfl (.tmp 18) (.tmp 19) _ rfl w.heap.size 3 i0 _ 1 8 Tryz.underlying62 hi0 hz0 hz1 hz2 rfl (by omega) (.slice (some ⟨g, 0, none⟩) n n) n (ints (List.replicate n b)) rfl
                 HO3.out (w2.heap.size + 1) (some ⟨w2.heap.size, 0, none⟩) 2 2 (ints [64, 64]) rfl HR64.out (ints_one' _) hn34 (by omega) (by have := HB3.out.size; exact this) ?_
               intro v4 w4 hown4 hg4 hat4
               have HO4 := Lib.hid hown4
               have HB4 : Hid (Below w.heap.size w w4) := HB3.out.grown hg4 HB3.out.size (by intro q hq; have e : g = q := (by simpa [Value.ownBlock] using hq); rw [← e, HG.out, HZ1.out]; omega)
               clear hown4 hg4 hat4)
  obtain ⟨A4, c4, rfl, hc4, hm4, hr4⟩ := own_slice HO4.out
  rw [ints_append] at hr4
  refine (newdisk_any A4 (n + 2) c4 (newZ n b) w4 hr4 (by omega) (by omega)).mono ?_
  rintro e w5 (⟨hok, d, rb, lay, rfl, hdisk, hfresh, hb5⟩ | ⟨hno, rfl, hb5⟩)
  · have hsz := (newZ_ok n b (by omega)).1 hok
    obtain ⟨sz, rfl⟩ : ∃ sz : Nat, b = (sz : Int) := ⟨b.toNat, by omega⟩
    have h5 : Sep w.heap.size w w5 (diskOb d rb (n + 2) lay (newD (newZ n (sz : Int))) :: []) :=
      Sep.add (os := []) ⟨HB4.out, HB4.out.size, (fun o ho => by cases ho), List.Pairwise.nil⟩ hb5 hdisk hfresh
    have HS5 : Hid (Sep w.heap.size w w5 (diskOb d rb (n + 2) lay (newVD n sz).D :: [])) := h5.dcongr (newZ_D n sz)
    have HSZ := Lib.hid hsz
    clear hok hdisk hfresh hb5 hsz h5 hr4 hm4 hc4
    go_wp2_with fail
    refine (timer_new w5).mono ?_
    rintro e w6 ⟨rfl, ht, hb6⟩
    have HS6 : Hid (Sep w.heap.size w w6 (tmOb w5.heap.size 0 none none :: diskOb d rb (n + 2) lay (newVD n sz).D :: [])) := HS5.out.add (a := tmOb w5.heap.size 0 none none) hb6 ht (fun k hk => Nat.le_of_eq (show w5.heap.size = k from (show k = w5.heap.size from hk).symm))
    clear ht hb6
    go_wp2_with fail
    go_ret2
    have h7 : Sep w.heap.size w (w6.alloc (.cells (devCells d w5.heap.size (newVD n sz)) 76)) (dv3 w6.heap.size ⟨d, rb, lay, w5.heap.size, 0, none⟩ (newVD n sz) []) :=
      (HS6.out.newBlk w6.heap.size _ _ rfl).perm (.cons _ (.swap _ _ _))
    have h8 := h7.join (newVD_ok n sz hn2 hn32)
    exact .inl ⟨⟨⟨by omega, by omega⟩, HSZ.out⟩, w6.heap.size, ⟨d, rb, lay, w5.heap.size, 0, none⟩, rfl, h8.dev, (h8.all _ (.head _)).2, h8.bel⟩
  · have hno2 : ¬ okNew (n : Int) b := fun h => by
      obtain ⟨z, hz, hn⟩ := hno
      exact hn ((newZ_ok n b (by omega)).2 h.2 z hz)
    have HB5 : Hid (Below w.heap.size w w5) := HB4.out.trans (hb5.mono HB4.out.size)
    clear hno hb5 hr4 hm4 hc4
    go_wp2_with fail
    go_ret2
    exact .inr ⟨hno2, rfl, HB5.out⟩
section
variable {B : Nat} {w0 w w' : World} {os : List Ob} {v : Nat} {L : DLay} {X : DevD}
theorem sep_vnew (h : Sep B w0 w os) (n size : Nat) (h1 : 2 ≤ n) (h2 : n ≤ 32) (h3 : 1 ≤ size) (h4 : size ≤ 8192) :
    Calls Tryz.prog 16 #[.int .i64 (n : Int), .int .i64 (size : Int)] w fun e w' => ∃ v L, e = .returned (.tuple #[.pointer (some ⟨v, 0, none⟩), .int .i64 0]) ∧ Sep B w0 w' (devOb v L (newVD n size) :: os) := by
  refine (newdev_any _ _ w).mono ?_
  rintro e w' (⟨_, v, L, h5, h6, h7, h8⟩ | ⟨h5, _⟩)
  · exact ⟨v, L, h5, h.add (a := devOb v L (newVD n size)) h8 h6 h7⟩
  · exact absurd ⟨⟨by omega, by omega⟩, by omega, by omega⟩ h5
end
end Go.Proofs.YtnopljanpjmbgaaGreat
namespace Go.Proofs.YtnopljanpjmbgaaGreat
open Go.RowKit Go.Shelf
set_option linter.unusedVariables false
section
variable {B : Nat} {w0 w w' : World} {os : List Ob} {v : Nat} {L : DLay} {X : DevD}
end
end Go.Proofs.YtnopljanpjmbgaaGreat
namespace Go.Proofs.YtnopljanpjmbgaaGreat
open Go.RowKit Go.Shelf
set_option linter.unusedVariables false
/-- Any object as one among others. -/
def objOb (g : Nat) (o : Obj) : Ob where
  P w := w.heap[g]? = some o
  F k := k = g
  keep hc hF h := (hc.block g (Array.getElem?_eq_some_iff.1 h).1 (hF _ rfl)).trans h
  lt h k hk := by subst hk; exact (Array.getElem?_eq_some_iff.1 h).1
theorem cellOb_obj {g : Nat} {o : Obj} (ho : o.isCells = true) : CellOb (objOb g o) := fun w h k hk => by
  have e : k = g := hk
  subst e
  exact ⟨o, h, ho⟩
section
variable {B : Nat} {w0 w w' : World} {os : List Ob} {v : Nat} {L : DLay} {X : DevD}
theorem Sep.newObj (h : Sep B w0 w os) (o : Obj) (g : Nat) (hg : g = w.heap.size) : Sep B w0 (w.alloc o) (objOb g o :: os) := by
  subst hg
  exact h.add (a := objOb w.heap.size o) ((Below.refl _ _).alloc (Nat.le_refl _) o) (heap_alloc_new w o) (fun k hk => Nat.le_of_eq (show w.heap.size = k from (show k = w.heap.size from hk).symm))
theorem holds_obj {g : Nat} {t : TypeId} {fr : Nat × Nat} {cs : Array Value} {b : List (BitVec 8)} {n c : Nat} (h : (objOb g (.cells cs t fr)).P w) (hcs : cs = (u8s b).toArray) (hn : n = b.length) (hnc : n ≤ c) (hc : c ≤ maxLen) : Holds w (.slice (some ⟨g, 0, none⟩) n c) b := by
  have h' : w.heap[g]? = some (.cells cs t fr) := h
  refine ⟨_, n, c, rfl, hn, hnc, hc, by rw [u8s_length]; omega, fun _ => ⟨_, rfl, (Array.getElem?_eq_some_iff.1 h').1, fun j u hu => ?_⟩⟩
  rw [add_zero_addr, cell_of_row w g j cs t fr h', hcs]
  simpa using hu
theorem Sep.vto (h : Sep B w0 w (devOb v L X :: os)) {Y : DevD} (hn : X.n = Y.n) (hT : X.T = Y.T) (ho : X.ops = Y.ops) (hd : X.down = Y.down) (hD : ∀ i, i < Y.n + 2 → Y.D i = X.D i) : Sep B w0 w (devOb v L Y :: os) := by
  obtain ⟨n, D, T, ops, down⟩ := X
  obtain ⟨n', D', T', ops', down'⟩ := Y
  dsimp only at hn hT ho hd hD
  subst hn hT ho hd
  exact h.vcongr hD
/-- Append of bytes that the call has built. -/
theorem sep_vappend_obj {g : Nat} {t : TypeId} {fr : Nat × Nat} {cs : Array Value} (h : Sep B w0 w (objOb g (.cells cs t fr) :: devOb v L X :: os)) (hC : AllCells os) (hops : X.ops < 4611686018427387904) (i : Int) (b : List (BitVec 8)) (n c : Nat) (hcs : cs = (u8s b).toArray) (hn : n = b.length) (hnc : n ≤ c) (hc : c ≤ maxLen) :
    Calls Tryz.prog 7 #[.pointer (some ⟨v, 0, none⟩), .int .i64 i, .slice (some ⟨g, 0, none⟩) n c] w fun e w' => e = .returned (.int .i64 (appVE X i b)) ∧ ∃ L', Sep B w0 w' (devOb v L' (appVX X i b) :: os) := by
  refine (sep_vappend (b := b) (h.perm (.swap _ _ _)) (AllCells.cons (cellOb_obj rfl) hC) hops i (fun W hW => holds_obj (hW.2 _ (.head _)) hcs hn hnc hc)).mono ?_
  rintro e w' ⟨h1, L', h2⟩
  exact ⟨h1, L', h2.sub (.cons_cons _ (.cons _ (List.Sublist.refl _)))⟩
/-- Arm with a plan whose numbers the call has built. -/
theorem sep_varm_blk {g : Nat} {cs : Array Value} (h : Sep B w0 w (blkOb g 3 cs :: devOb v L X :: os)) (hC : AllCells os) (at_ : Int) (dn : Bool) (keep : List Int) (m : Nat) (hcs : cs = (ints keep).toArray) (hm : m = keep.length) (hm2 : m ≤ maxLen) (hat : -9223372036854775808 ≤ at_ ∧ at_ ≤ 9223372036854775807) :
    Calls Tryz.prog 24 #[.pointer (some ⟨v, 0, none⟩), planV at_ dn (some ⟨g, 0, none⟩) m m] w fun e w' => e = .returned (.int .i64 (armE at_ keep)) ∧ ∃ L', Sep B w0 w' (devOb v L' (armX X at_ dn keep) :: os) := by
  refine (sep_varm (h.perm (.swap _ _ _)) (AllCells.cons (cellOb_blk _ _ _) hC) at_ dn (some ⟨g, 0, none⟩) m m keep (fun W hW => ?_) (Nat.le_refl _) hm2 (fun e => by cases e) ?_ hat).mono ?_
  · have hb : Blk W g 3 cs := hW.2 _ (.head _)
    refine ⟨by rw [ints_length]; omega, fun _ => ⟨_, rfl, hb.lt, fun j u hu => ?_⟩⟩
    rw [add_zero_addr, hb.cell, hcs]
    simpa using hu
  · rintro ad e _ hk
    injection e with e
    subst e
    exact (List.pairwise_cons.1 h.apart).1 (devOb v L X) (.head _) g rfl hk
  · rintro e w' ⟨h1, L', h2⟩
    exact ⟨h1, L', h2.sub (.cons_cons _ (.cons _ (List.Sublist.refl _)))⟩
end
/-- The disk of a device of two slots. -/
def fD (a b c d : SlotD) : Nat → SlotD := fun i => if i = 0 then a else if i = 1 then b else if i = 2 then c else d
theorem fD_of {D : Nat → SlotD} {a b c d : SlotD} (h0 : D 0 = a) (h1 : D 1 = b) (h2 : D 2 = c) (h3 : D 3 = d) : ∀ i, i < 4 → fD a b c d i = D i := by
  intro i hi
  have : i = 0 ∨ i = 1 ∨ i = 2 ∨ i = 3 := by omega
  rcases this with rfl | rfl | rfl | rfl
  · exact h0.symm
  · exact h1.symm
  · exact h2.symm
  · exact h3.symm
theorem read_ok {w w' : World} {X : DevD} {s a b : Nat} {v : Value} {r : Int} (h : VReadQ w X (s : Int) (a : Int) (b : Int) v r w') (hc : chkE X (s : Int) = 0) (hab : a + b ≤ (X.D s).bytes.length) : r = 0 ∧ w'.ownsRow w.heap.size 5 1 v b (u8s (((X.D s).bytes.drop a).take b)) := by
  rcases h with ⟨h1, _⟩ | ⟨_, s', e, _, h2 | ⟨a', b', e1, e2, _, h3, h4⟩⟩
  · exact absurd hc h1
  · obtain rfl : s' = s := by omega
    obtain ⟨h2, _⟩ := h2
    unfold badRead at h2
    omega
  · obtain rfl : s' = s := by omega
    obtain rfl : a' = a := by omega
    obtain rfl : b' = b := by omega
    exact ⟨h3, h4⟩
end Go.Proofs.YtnopljanpjmbgaaGreat
namespace Go.Proofs.YtnopljanpjmbgaaGreat
open Go.RowKit
set_option linter.unusedVariables false
/-- A value that holds numbers. -/
def HoldsI (w : World) (v : Value) (zs : List Int) : Prop := (∃ A n c, v = .slice A n c ∧ n = zs.length ∧ n ≤ c ∧ c ≤ maxLen ∧ Reads w w.heap.size 1 A n (ints zs)) ∧ ∀ z ∈ zs, -9223372036854775808 ≤ z ∧ z ≤ 9223372036854775807
theorem HoldsI.below {w w' : World} {v : Value} {zs : List Int} (h : HoldsI w v zs) (hb : Below w.heap.size w w') : HoldsI w' v zs := by
  obtain ⟨⟨A, n, c, rfl, h0, h1, h2, h3⟩, h4⟩ := h
  exact ⟨⟨A, n, c, rfl, h0, h1, h2, (h3.below hb).more hb.size⟩, h4⟩
theorem bytes_of_rd {w : World} {n c : Nat} {A : Option Addr} {xs : List Value} (h1 : n ≤ c) (h2 : c ≤ maxLen) (hr : Reads w w.heap.size 1 A n xs) (hd : ∀ i, i < n → Rd Tryz.prog w 5 ((xs.drop (i * 1)).take 1)) :
    ∃ l, Holds w (.slice A n c) l := by
  have hl : xs.length = n := by have := hr.1; omega
  obtain ⟨l, rfl⟩ := bytes_of_all xs (fun k hk => by
    have h := hd k (by omega)
    rw [Nat.mul_one, List.drop_eq_getElem_cons hk] at h
    obtain ⟨m, e, hw⟩ := Rd.int (k := .u8) Tryz.underlying5 h
    obtain ⟨b, rfl⟩ := u8_of_wf hw
    refine ⟨b, ?_⟩
    have e2 : [xs[k]] = [Value.int .u8 (n8 b)] := e
    have e' : xs[k] = .int .u8 (n8 b) := by injection e2
    rw [List.getElem?_eq_getElem hk, e'])
  rw [u8s_length] at hl
  exact ⟨l, A, n, c, rfl, hl.symm, h1, h2, hr⟩
theorem ints_of_all : ∀ zs : List Value, (∀ k, k < zs.length → ∃ b : Int, (-9223372036854775808 ≤ b ∧ b ≤ 9223372036854775807) ∧ zs[k]? = some (.int .i64 b)) → ∃ l : List Int, zs = ints l ∧ ∀ z ∈ l, -9223372036854775808 ≤ z ∧ z ≤ 9223372036854775807 := by
  intro zs
  induction zs with
  | nil => intro _; exact ⟨[], rfl, fun z hz => by cases hz⟩
  | cons z zs ih =>
    intro h
    obtain ⟨b, hbb, hb⟩ := h 0 (by simp)
    obtain ⟨l, rfl, hl⟩ := ih (fun k hk => by simpa using h (k + 1) (by simpa using hk))
    have : z = .int .i64 b := by simpa using hb
    subst this
    exact ⟨b :: l, rfl, fun z hz => by
      rcases List.mem_cons.1 hz with rfl | hz
      · exact hbb
      · exact hl z hz⟩
theorem ints_of_rd {w : World} {n c : Nat} {A : Option Addr} {xs : List Value} (h1 : n ≤ c) (h2 : c ≤ maxLen) (hr : Reads w w.heap.size 1 A n xs) (hd : ∀ i, i < n → Rd Tryz.prog w 3 ((xs.drop (i * 1)).take 1)) :
    ∃ l, HoldsI w (.slice A n c) l := by
  have hl : xs.length = n := by have := hr.1; omega
  obtain ⟨l, rfl, hall⟩ := ints_of_all xs (fun k hk => by
    have h := hd k (by omega)
    rw [Nat.mul_one, List.drop_eq_getElem_cons hk] at h
    obtain ⟨m, e, hw⟩ := Rd.int (k := .i64) Tryz.underlying3 h
    refine ⟨m, i64_of_wf hw, ?_⟩
    have e2 : [xs[k]] = [Value.int .i64 m] := e
    have e' : xs[k] = .int .i64 m := by injection e2
    rw [List.getElem?_eq_getElem hk, e'])
  rw [ints_length] at hl
  exact ⟨l, ⟨A, n, c, rfl, hl.symm, h1, h2, hr⟩, hall⟩
end Go.Proofs.YtnopljanpjmbgaaGreat
namespace Go.Proofs.YtnopljanpjmbgaaGreat
open Go.RowKit Go.Shelf
set_option linter.unusedVariables false
/-- A device that is nil, or was not made by New. -/
def NoDev (w : World) (p : Option Addr) : Prop := p = none ∨ ∃ g, p = some ⟨g, 0, none⟩ ∧ w.cell? ⟨g, 2, none⟩ = some (.int .i64 0)
theorem NoDev.below {w w' : World} {p : Option Addr} (h : NoDev w p) (hb : Below w.heap.size w w') : NoDev w' p := by
  rcases h with rfl | ⟨g, rfl, hc⟩
  · exact .inl rfl
  · exact .inr ⟨g, rfl, (hb.cell (p := ⟨g, 2, none⟩) (block_lt_of_cell hc)).trans hc⟩
section
variable {w w' : World} {p : Option Addr}
set_option maxRecDepth 100000 in
set_option maxHeartbeats 400000 in
theorem valid_nodev (h : NoDev w p) :
    Calls Tryz.prog 32 #[.pointer p] w fun e w' => e = .returned (.bool false) ∧ w = w' := by
  rcases h with rfl | ⟨g, rfl, hc⟩
  · go_enter Tryz.func32, Tryz.ntmps32
    go_wp2_with fail
    go_ret
    exact ⟨rfl, rfl⟩
  · go_enter Tryz.func32, Tryz.ntmps32
    go_wp2_with fail
    go_ret
    exact ⟨rfl, rfl⟩
set_option maxRecDepth 100000 in
set_option maxHeartbeats 400000 in
theorem check_nodev (h : NoDev w p) (i : Int) :
    Calls Tryz.prog 33 #[.pointer p, .int .i64 i] w fun e w' => e = .returned (.int .i64 1) ∧ w = w' := by
  have HV := Lib.hid (valid_nodev h)
  clear h
  go_enter Tryz.func33, Tryz.ntmps33
  go_wp2_with fail
  refine HV.out.mono ?_
  rintro e w' ⟨rfl, rfl⟩
  go_wp2_with fail
  go_ret
  exact ⟨rfl, rfl⟩
set_option maxRecDepth 100000 in
set_option maxHeartbeats 400000 in
theorem len_nodev (h : NoDev w p) (i : Int) :
    Calls Tryz.prog 43 #[.pointer p, .int .i64 i] w fun e w' => e = .returned (.tuple #[.int .i64 0, .int .i64 1]) ∧ Below w.heap.size w w' := by
  have HC := Lib.hid (check_nodev h i)
  clear h
  go_enter Tryz.func43, Tryz.ntmps43
  go_wp2_with fail
  refine HC.out.mono ?_
  rintro e w1 ⟨rfl, rfl⟩
  go_wp2_with fail
  go_ret2
  exact ⟨rfl, Below.refl _ _⟩
set_option maxRecDepth 100000 in
set_option maxHeartbeats 400000 in
theorem uns_nodev (h : NoDev w p) (i : Int) :
    Calls Tryz.prog 12 #[.pointer p, .int .i64 i] w fun e w' => e = .returned (.tuple #[.int .i64 0, .int .i64 1]) ∧ Below w.heap.size w w' := by
  have HC := Lib.hid (len_nodev h i)
  clear h
  go_enter Tryz.func12, Tryz.ntmps12
  go_wp2_with fail
  refine HC.out.mono ?_
  rintro e w1 ⟨rfl, hb⟩
  have HB := Lib.hid hb
  clear hb
  go_wp2_with fail
  go_ret2
  exact ⟨rfl, HB.out⟩
set_option maxRecDepth 100000 in
set_option maxHeartbeats 400000 in
theorem read_nodev (h : NoDev w p) (i off m : Int) :
    Calls Tryz.prog 9 #[.pointer p, .int .i64 i, .int .i64 off, .int .i64 m] w fun e w' => e = .returned (.tuple #[.slice none 0 0, .int .i64 1]) ∧ Below w.heap.size w w' := by
  have HC := Lib.hid (check_nodev h i)
  clear h
  go_enter Tryz.func9, Tryz.ntmps9
  go_wp2_with fail
  refine HC.out.mono ?_
  rintro e w1 ⟨rfl, rfl⟩
  go_wp2_with fail
  go_ret2
  exact ⟨rfl, Below.refl _ _⟩
set_option maxRecDepth 100000 in
set_option maxHeartbeats 400000 in
theorem down_nodev (h : NoDev w p) :
    Calls Tryz.prog 81 #[.pointer p] w fun e w' => e = .returned (.bool false) ∧ Below w.heap.size w w' := by
  have HC := Lib.hid (valid_nodev h)
  clear h
  go_enter Tryz.func81, Tryz.ntmps81
  go_wp2_with fail
  refine HC.out.mono ?_
  rintro e w1 ⟨rfl, rfl⟩
  go_wp2_with fail
  go_ret
  exact ⟨rfl, Below.refl _ _⟩
set_option maxRecDepth 100000 in
set_option maxHeartbeats 400000 in
theorem ops_nodev (h : NoDev w p) :
    Calls Tryz.prog 6 #[.pointer p] w fun e w' => e = .returned (.int .i64 0) ∧ Below w.heap.size w w' := by
  have HC := Lib.hid (valid_nodev h)
  clear h
  go_enter Tryz.func6, Tryz.ntmps6
  go_wp2_with fail
  refine HC.out.mono ?_
  rintro e w1 ⟨rfl, rfl⟩
  go_wp2_with fail
  go_ret
  exact ⟨rfl, Below.refl _ _⟩
set_option maxRecDepth 100000 in
set_option maxHeartbeats 400000 in
theorem slots_nodev (h : NoDev w p) :
    Calls Tryz.prog 57 #[.pointer p] w fun e w' => e = .returned (.int .i64 0) ∧ Below w.heap.size w w' := by
  have HC := Lib.hid (valid_nodev h)
  clear h
  go_enter Tryz.func57, Tryz.ntmps57
  go_wp2_with fail
  refine HC.out.mono ?_
  rintro e w1 ⟨rfl, rfl⟩
  go_wp2_with fail
  go_ret
  exact ⟨rfl, Below.refl _ _⟩
set_option maxRecDepth 100000 in
set_option maxHeartbeats 400000 in
theorem restart_nodev (h : NoDev w p) :
    Calls Tryz.prog 26 #[.pointer p] w fun e w' => e = .returned (.int .i64 1) ∧ Below w.heap.size w w' := by
  have HC := Lib.hid (valid_nodev h)
  clear h
  go_enter Tryz.func26, Tryz.ntmps26
  go_wp2_with fail
  refine HC.out.mono ?_
  rintro e w1 ⟨rfl, rfl⟩
  go_wp2_with fail
  go_ret
  exact ⟨rfl, Below.refl _ _⟩
set_option maxRecDepth 100000 in
set_option maxHeartbeats 1000000 in
theorem sync_nodev (h : NoDev w p) (i : Int) :
    Calls Tryz.prog 65 #[.pointer p, .int .i64 i] w fun e w' => e = .returned (.int .i64 1) ∧ Below w.heap.size w w' := by
  have HB : Hid (Below w.heap.size w ((w.alloc (.cells #[.pointer p] 24)).alloc (.cells #[.int .i64 i] 3))) := (((Below.refl _ _).alloc (Nat.le_refl _) _).alloc (by simp) _)
  have HC := Lib.hid (check_nodev (h.below HB.out) i)
  clear h
  go_enter Tryz.func65, Tryz.ntmps65
  go_wp2_with fail
  refine HC.out.mono ?_
  rintro e w1 ⟨rfl, rfl⟩
  go_wp2_with fail
  go_ret
  exact ⟨rfl, HB.out⟩
set_option maxRecDepth 100000 in
set_option maxHeartbeats 1000000 in
theorem erase_nodev (h : NoDev w p) (i : Int) :
    Calls Tryz.prog 28 #[.pointer p, .int .i64 i] w fun e w' => e = .returned (.int .i64 1) ∧ Below w.heap.size w w' := by
  have HB : Hid (Below w.heap.size w ((w.alloc (.cells #[.pointer p] 24)).alloc (.cells #[.int .i64 i] 3))) := (((Below.refl _ _).alloc (Nat.le_refl _) _).alloc (by simp) _)
  have HC := Lib.hid (check_nodev (h.below HB.out) i)
  clear h
  go_enter Tryz.func28, Tryz.ntmps28
  go_wp2_with fail
  refine HC.out.mono ?_
  rintro e w1 ⟨rfl, rfl⟩
  go_wp2_with fail
  go_ret
  exact ⟨rfl, HB.out⟩
set_option maxRecDepth 100000 in
set_option maxHeartbeats 1000000 in
theorem append_nodev (h : NoDev w p) (i : Int) (A : Option Addr) (m c : Nat) :
    Calls Tryz.prog 7 #[.pointer p, .int .i64 i, .slice A m c] w fun e w' => e = .returned (.int .i64 1) ∧ Below w.heap.size w w' := by
  have HB : Hid (Below w.heap.size w (((w.alloc (.cells #[.pointer p] 24)).alloc (.cells #[.int .i64 i] 3)).alloc (.cells #[.slice A m c] 23))) := ((((Below.refl _ _).alloc (Nat.le_refl _) _).alloc (by simp) _).alloc (by simp; omega) _)
  have HC := Lib.hid (check_nodev (h.below HB.out) i)
  clear h
  go_enter Tryz.func7, Tryz.ntmps7
  go_wp2_with fail
  refine HC.out.mono ?_
  rintro e w1 ⟨rfl, rfl⟩
  go_wp2_with fail
  go_ret
  exact ⟨rfl, HB.out⟩
set_option maxRecDepth 100000 in
set_option maxHeartbeats 1000000 in
theorem arm_nodev (h : NoDev w p) (at_ : Int) (dn : Bool) (A : Option Addr) (m c : Nat) :
    Calls Tryz.prog 24 #[.pointer p, .agg #[.int .i64 at_, .bool dn, .slice A m c]] w fun e w' => e = .returned (.int .i64 1) ∧ Below w.heap.size w w' := by
  have HB : Hid (Below w.heap.size w (w.alloc (.cells #[.int .i64 at_, .bool dn, .slice A m c] 64))) := ((Below.refl _ _).alloc (Nat.le_refl _) _)
  have HC := Lib.hid (valid_nodev (h.below HB.out))
  clear h
  go_enter Tryz.func24, Tryz.ntmps24
  go_wp2_with fail
  refine HC.out.mono ?_
  rintro e w1 ⟨rfl, rfl⟩
  go_wp2_with fail
  go_ret
  exact ⟨rfl, HB.out⟩
end
end Go.Proofs.YtnopljanpjmbgaaGreat

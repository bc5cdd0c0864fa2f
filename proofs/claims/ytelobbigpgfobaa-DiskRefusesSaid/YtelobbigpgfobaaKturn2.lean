/-
  The walk of the disk laws' turn: Sync, Erase, Crash; and any turn. Conditions: the disk is as New makes it, what is known is true of it, and the objects lie apart.
-/
import Derived.Test.YtelobbigpgfobaaKturn
import Derived.Test.YtelobbigpgfobaaStores
namespace Go.Proofs.Ytelobbigpgfobaa
open Go.RowKit
set_option linter.unusedVariables false
theorem IsKnown.congr {w : World} {S : Nat → Prop} {k gb gd d size n : Nat} {D D' : Nat → SlotD} (h : IsKnown w S k gb gd d size n D) (hD : ∀ i, i < n → D' i = D i) : IsKnown w S k gb gd d size n D' := by
  obtain ⟨bs, h1, h2⟩ := h.row
  refine ⟨h.blk, ⟨bs, ?_, fun i hi => by rw [hD i hi]; exact h2 i hi⟩, ?_, h.ne, h.ns, h.cel, fun i hi => by rw [hD i hi]; exact h.nums i hi, h.sz⟩
  · rw [kbRow_congr (fun i hi => by rw [hD i hi])]; exact h1
  · rw [kdRow_congr (fun i hi => by rw [hD i hi])]; exact h.dur
section
variable {B : Nat} {w0 w w' : World} {os : List Ob} {d n size k gb gd : Nat} {rb : Option Nat} {lay : Lay} {D : Nat → SlotD} {S : Nat → Prop}
set_option maxRecDepth 100000 in
set_option maxHeartbeats 8000000 in
theorem turn_sync (h : KSep B w0 w d rb lay S k gb gd size n D os) (hn : 0 < n) (hm34 : n ≤ 65536) (a s b c : BitVec 8) (ha : a.toNat % 8 = 5) :
    Calls Try.prog 12 #[.pointer (some ⟨k, 0, none⟩), turnV a s b c] w fun e w' => e = .returned (.bool true) ∧ ∃ lay' S', KSep B w0 w' d rb lay' S' k gb gd size n (syncD D (s.toNat % n)) os := by
  obtain ⟨i, hi⟩ : ∃ i, s.toNat % n = i := ⟨_, rfl⟩
  have hin : i < n := by rw [← hi]; exact Nat.mod_lt _ hn
  have hrem : Int.tmod (n8 s) (n : Int) = (i : Int) := by rw [n8_nat, Int.tmod_eq_emod_of_nonneg (by omega)]; omega
  obtain ⟨ka, hka⟩ : ∃ ka : Nat, n8 a % 8 = (ka : Int) := ⟨a.toNat % 8, by rw [n8_nat]; omega⟩
  have hka5 : ka = a.toNat % 8 := by rw [n8_nat] at hka; omega
  obtain ⟨ha1, ha2⟩ := n8_bd a
  obtain ⟨hb1, hb2⟩ := n8_bd b
  obtain ⟨hc1, hc2⟩ := n8_bd c
  obtain ⟨hs1, hs2⟩ := n8_bd s
  have hk8 : ka < 8 := by omega
  rw [← hka5] at ha
  rw [hi]
  clear hi hka5
  obtain ⟨w1, hw1⟩ : ∃ w1 : World, w1 = w.alloc (.cells (turnC a s b c) 28) := ⟨_, rfl⟩
  have h1 : KSep B w0 w1 d rb lay S k gb gd size n D os := by rw [hw1]; exact h.alloc _
  have hbk : Blk w1 w.heap.size 28 (turnC a s b c) := by rw [hw1]; exact Blk.new w _ _
  have H1 := Lib.hid h1
  have HW1 := Lib.hid hw1
  have HT : Hid (∀ W, Below w1.heap.size w1 W → W.cell? ⟨w.heap.size, 0, none⟩ = some (.int .u8 (n8 a)) ∧ W.cell? ⟨w.heap.size, 1, none⟩ = some (.int .u8 (n8 s)) ∧ W.cell? ⟨w.heap.size, 2, none⟩ = some (.int .u8 (n8 b)) ∧ W.cell? ⟨w.heap.size, 3, none⟩ = some (.int .u8 (n8 c))) := fun W hW => by
    have := hbk.below hW hbk.lt
    exact ⟨this.cell 0, this.cell 1, this.cell 2, this.cell 3⟩
  obtain ⟨t0, t1, t2, t3⟩ := HT.out w1 (Below.refl _ _)
  obtain ⟨k0, k1, k2, k3⟩ := h1.known.cells
  unfold turnV
  unfold turnC at HW1
  clear h h1 hbk hw1
  go_enter Try.func12, Try.ntmps12
  go_wp2_with fail
  rw [← HW1.out]
  go_quiet (fail)
  have hbq : Below w1.heap.size w1 (w1.drewN nq) := bel_drewN' _ _
  have H2 : Hid (KSep B w0 (w1.drewN nq) d rb lay S k gb gd size n D os) := H1.out.below hbq
  generalize w1.drewN nq = w2 at hbq H2 ⊢
  have HB2 := Lib.hid hbq
  clear t0 t1 t2 t3 k0 k1 k2 k3 hbq
  obtain ⟨t0, t1, t2, t3⟩ := HT.out w2 HB2.out
  obtain ⟨k0, k1, k2, k3⟩ := H2.out.known.cells
  obtain ⟨Bk, ck, e1, e2, e3, e4, e5⟩ := H2.out.known.slot i hin
  obtain ⟨u1, u2, u3⟩ := H2.out.known.nums i hin
  obtain ⟨gne1, gne2, gne3⟩ := H2.out.known.ne
  have HE5 := Lib.hid e5
  have hcl := e5.1
  have hcm := e5.2.1
  unfold maxLen at hcm
  clear e5
  have d5 : decide ((ka : Int) < 5) = false := by simp; omega
  have d6 : ((ka : Int) == 5) = true := by simp; omega
  go_wp2_with fail
  go_still_tail 13, (by kernel_rfl)
  change wpList _ _ _ _ _ w2.drew
  have hd3 : Below w2.heap.size w2 w2.drew := (Below.refl _ _).drew
  have H3 : Hid (KSep B w0 w2.drew d rb lay S k gb gd size n D os) := H2.out.below hd3
  have HE3 : Hid (BytesAt w2.drew S Bk ck (D i).bytes) := HE5.out.chg H2.out.known.cel.lt (Chg.of_below (F := fun _ => False) hd3) (fun _ _ h => h)
  have k0' : w2.drew.cell? ⟨k, 0, none⟩ = some (.pointer (some ⟨d, 0, none⟩)) := k0
  have e1' : w2.drew.cell? ⟨gb, i, none⟩ = some (.slice Bk (D i).bytes.length ck) := e1
  have e2' : w2.drew.cell? ⟨gd, i, none⟩ = some (.int .i64 ((D i).dur : Int)) := e2
  have e3' : w2.drew.frozen? ⟨gb, i, none⟩ = false := e3
  have e4' : w2.drew.frozen? ⟨gd, i, none⟩ = false := e4
  generalize w2.drew = w3 at hd3 H3 HE3 k0' e1' e2' e3' e4' ⊢
  clear t0 t1 t2 t3 k0 k1 k2 k3 e1 e2 e3 e4 hd3
  go_wp2_with fail
  have hup := H3.out.known.updD hin ⟨(D i).size, (D i).bytes, (D i).bytes.length⟩ rfl ⟨Nat.le_refl _, u2, u3⟩
  have hs4 := H3.out.knownTo ((Chg.refl (kfoot S k gb gd) w3).setCell (p := ⟨gd, i, none⟩) (.inl (.inr (.inr (.inl rfl)))) _) hup (fun q hq => .inl hq)
  have HS4 := Lib.hid hs4
  clear hup hs4
  refine (sep_dsync HS4.out hn i hin).mono ?_
  rintro e w5 ⟨rfl, lay5, hs⟩
  have H5 := Lib.hid hs
  clear hs
  go_wp2_with fail
  go_ret
  exact ⟨rfl, lay5, S, H5.out⟩
set_option maxRecDepth 100000 in
set_option maxHeartbeats 8000000 in
theorem turn_erase (h : KSep B w0 w d rb lay S k gb gd size n D os) (hn : 0 < n) (hm34 : n ≤ 65536) (a s b c : BitVec 8) (ha : a.toNat % 8 = 6) :
    Calls Try.prog 12 #[.pointer (some ⟨k, 0, none⟩), turnV a s b c] w fun e w' => e = .returned (.bool true) ∧ ∃ lay' S', KSep B w0 w' d rb lay' S' k gb gd size n (eraseD D (s.toNat % n)) os := by
  obtain ⟨i, hi⟩ : ∃ i, s.toNat % n = i := ⟨_, rfl⟩
  have hin : i < n := by rw [← hi]; exact Nat.mod_lt _ hn
  have hrem : Int.tmod (n8 s) (n : Int) = (i : Int) := by rw [n8_nat, Int.tmod_eq_emod_of_nonneg (by omega)]; omega
  obtain ⟨ka, hka⟩ : ∃ ka : Nat, n8 a % 8 = (ka : Int) := ⟨a.toNat % 8, by rw [n8_nat]; omega⟩
  have hka5 : ka = a.toNat % 8 := by rw [n8_nat] at hka; omega
  obtain ⟨ha1, ha2⟩ := n8_bd a
  obtain ⟨hb1, hb2⟩ := n8_bd b
  obtain ⟨hc1, hc2⟩ := n8_bd c
  obtain ⟨hs1, hs2⟩ := n8_bd s
  have hk8 : ka < 8 := by omega
  rw [← hka5] at ha
  rw [hi]
  clear hi hka5
  obtain ⟨w1, hw1⟩ : ∃ w1 : World, w1 = w.alloc (.cells (turnC a s b c) 28) := ⟨_, rfl⟩
  have h1 : KSep B w0 w1 d rb lay S k gb gd size n D os := by rw [hw1]; exact h.alloc _
  have hbk : Blk w1 w.heap.size 28 (turnC a s b c) := by rw [hw1]; exact Blk.new w _ _
  have H1 := Lib.hid h1
  have HW1 := Lib.hid hw1
  have HT : Hid (∀ W, Below w1.heap.size w1 W → W.cell? ⟨w.heap.size, 0, none⟩ = some (.int .u8 (n8 a)) ∧ W.cell? ⟨w.heap.size, 1, none⟩ = some (.int .u8 (n8 s)) ∧ W.cell? ⟨w.heap.size, 2, none⟩ = some (.int .u8 (n8 b)) ∧ W.cell? ⟨w.heap.size, 3, none⟩ = some (.int .u8 (n8 c))) := fun W hW => by
    have := hbk.below hW hbk.lt
    exact ⟨this.cell 0, this.cell 1, this.cell 2, this.cell 3⟩
  obtain ⟨t0, t1, t2, t3⟩ := HT.out w1 (Below.refl _ _)
  obtain ⟨k0, k1, k2, k3⟩ := h1.known.cells
  unfold turnV
  unfold turnC at HW1
  clear h h1 hbk hw1
  go_enter Try.func12, Try.ntmps12
  go_wp2_with fail
  rw [← HW1.out]
  go_quiet (fail)
  have hbq : Below w1.heap.size w1 (w1.drewN nq) := bel_drewN' _ _
  have H2 : Hid (KSep B w0 (w1.drewN nq) d rb lay S k gb gd size n D os) := H1.out.below hbq
  generalize w1.drewN nq = w2 at hbq H2 ⊢
  have HB2 := Lib.hid hbq
  clear t0 t1 t2 t3 k0 k1 k2 k3 hbq
  obtain ⟨t0, t1, t2, t3⟩ := HT.out w2 HB2.out
  obtain ⟨k0, k1, k2, k3⟩ := H2.out.known.cells
  obtain ⟨Bk, ck, e1, e2, e3, e4, e5⟩ := H2.out.known.slot i hin
  obtain ⟨u1, u2, u3⟩ := H2.out.known.nums i hin
  obtain ⟨gne1, gne2, gne3⟩ := H2.out.known.ne
  have HE5 := Lib.hid e5
  have hcl := e5.1
  have hcm := e5.2.1
  unfold maxLen at hcm
  clear e5
  have d5 : decide ((ka : Int) < 5) = false := by simp; omega
  have d6 : ((ka : Int) == 5) = false := by simp; omega
  have d7 : ((ka : Int) == 6) = true := by simp; omega
  go_wp2_with fail
  clear t0 t1 t2 t3
  go_region_law (fail)
  all_goals
    have hup := H2.out.known.upd hin ⟨(D i).size, [], 0⟩ none 0 (BytesAt.nil_ _ _) ⟨by simp, by simp, u3⟩
    have hs4 := (H2.out.knownTo (((Chg.refl (kfoot S k gb gd) w2).setCell (p := ⟨gb, i, none⟩) (.inl (.inr (.inl rfl))) _).setCell (p := ⟨gd, i, none⟩) (.inl (.inr (.inr (.inl rfl)))) _) hup (fun q hq => .inl hq)).drew
    have HS4 := Lib.hid hs4
    have k0' := hs4.known.blk.cell 0
    clear hup hs4
    go_wp2_with fail
    refine (sep_derase HS4.out hn i hin).mono ?_
    rintro e w5 ⟨rfl, lay5, hs⟩
    have H5 := Lib.hid hs
    clear hs
    go_wp2_with fail
    go_ret
    exact ⟨rfl, lay5, S, H5.out⟩
set_option maxRecDepth 100000 in
set_option maxHeartbeats 8000000 in
theorem turn_crash (h : KSep B w0 w d rb lay S k gb gd size n D os) (hn : 0 < n) (hm34 : n ≤ 65536) (hCC : AllCells os) (a s b c : BitVec 8) (ha : a.toNat % 8 = 7) :
    Calls Try.prog 12 #[.pointer (some ⟨k, 0, none⟩), turnV a s b c] w fun e w' => e = .returned (.bool true) ∧ ∃ lay' S', KSep B w0 w' d rb lay' S' k gb gd size n (crashD (mvK b c) D) os := by
  obtain ⟨i, hi⟩ : ∃ i, s.toNat % n = i := ⟨_, rfl⟩
  have hin : i < n := by rw [← hi]; exact Nat.mod_lt _ hn
  have hrem : Int.tmod (n8 s) (n : Int) = (i : Int) := by rw [n8_nat, Int.tmod_eq_emod_of_nonneg (by omega)]; omega
  obtain ⟨ka, hka⟩ : ∃ ka : Nat, n8 a % 8 = (ka : Int) := ⟨a.toNat % 8, by rw [n8_nat]; omega⟩
  have hka5 : ka = a.toNat % 8 := by rw [n8_nat] at hka; omega
  obtain ⟨ha1, ha2⟩ := n8_bd a
  obtain ⟨hb1, hb2⟩ := n8_bd b
  obtain ⟨hc1, hc2⟩ := n8_bd c
  obtain ⟨hs1, hs2⟩ := n8_bd s
  have hk8 : ka < 8 := by omega
  rw [← hka5] at ha
  skip
  clear hi hka5
  obtain ⟨w1, hw1⟩ : ∃ w1 : World, w1 = w.alloc (.cells (turnC a s b c) 28) := ⟨_, rfl⟩
  have h1 : KSep B w0 w1 d rb lay S k gb gd size n D os := by rw [hw1]; exact h.alloc _
  have hbk : Blk w1 w.heap.size 28 (turnC a s b c) := by rw [hw1]; exact Blk.new w _ _
  have H1 := Lib.hid h1
  have HW1 := Lib.hid hw1
  have HT : Hid (∀ W, Below w1.heap.size w1 W → W.cell? ⟨w.heap.size, 0, none⟩ = some (.int .u8 (n8 a)) ∧ W.cell? ⟨w.heap.size, 1, none⟩ = some (.int .u8 (n8 s)) ∧ W.cell? ⟨w.heap.size, 2, none⟩ = some (.int .u8 (n8 b)) ∧ W.cell? ⟨w.heap.size, 3, none⟩ = some (.int .u8 (n8 c))) := fun W hW => by
    have := hbk.below hW hbk.lt
    exact ⟨this.cell 0, this.cell 1, this.cell 2, this.cell 3⟩
  obtain ⟨t0, t1, t2, t3⟩ := HT.out w1 (Below.refl _ _)
  obtain ⟨k0, k1, k2, k3⟩ := h1.known.cells
  unfold turnV
  unfold turnC at HW1
  clear h h1 hbk hw1
  go_enter Try.func12, Try.ntmps12
  go_wp2_with fail
  rw [← HW1.out]
  go_quiet (fail)
  have hbq : Below w1.heap.size w1 (w1.drewN nq) := bel_drewN' _ _
  have H2 : Hid (KSep B w0 (w1.drewN nq) d rb lay S k gb gd size n D os) := H1.out.below hbq
  generalize w1.drewN nq = w2 at hbq H2 ⊢
  have HB2 := Lib.hid hbq
  clear t0 t1 t2 t3 k0 k1 k2 k3 hbq
  obtain ⟨t0, t1, t2, t3⟩ := HT.out w2 HB2.out
  obtain ⟨k0, k1, k2, k3⟩ := H2.out.known.cells
  obtain ⟨Bk, ck, e1, e2, e3, e4, e5⟩ := H2.out.known.slot i hin
  obtain ⟨u1, u2, u3⟩ := H2.out.known.nums i hin
  obtain ⟨gne1, gne2, gne3⟩ := H2.out.known.ne
  have HE5 := Lib.hid e5
  have hcl := e5.1
  have hcm := e5.2.1
  unfold maxLen at hcm
  clear e5
  have d5 : decide ((ka : Int) < 5) = false := by simp; omega
  have d6 : ((ka : Int) == 5) = false := by simp; omega
  have d7 : ((ka : Int) == 6) = false := by simp; omega
  have hmb : n8 b % 4 = ((b.toNat % 4 : Nat) : Int) := by rw [n8_nat]; omega
  have hmc : n8 c % 4 = ((c.toNat % 4 : Nat) : Int) := by rw [n8_nat]; omega
  obtain ⟨zb, hzb⟩ : ∃ zb, b.toNat % 4 = zb := ⟨_, rfl⟩
  obtain ⟨zc, hzc⟩ : ∃ zc, c.toNat % 4 = zc := ⟨_, rfl⟩
  have hzb4 : zb < 4 := by omega
  have hzc4 : zc < 4 := by omega
  have HMK : Hid (mvK b c = [(zb : Int), (zc : Int)]) := by show mvK b c = _; unfold mvK; rw [hzb, hzc]
  rw [hzb] at hmb
  rw [hzc] at hmc
  have HCC := Lib.hid hCC
  clear e1 e2 e3 e4 hcl hcm u1 u2 u3 HE5 hCC hzb hzc
  go_wp2_with fail
  obtain ⟨w3, hw3⟩ : ∃ w3 : World, w3 = w2.alloc (.cells #[.int .i64 (zb : Int), .int .i64 (zc : Int)] 3) := ⟨_, rfl⟩
  have h3 : Sep B w0 w3 (diskOb d rb n lay D :: knownOb S k gb gd d size n D :: blkOb w2.heap.size 3 #[.int .i64 (zb : Int), .int .i64 (zc : Int)] :: os) := by
    rw [hw3]
    exact (H2.out.newBlk w2.heap.size _ _ rfl).perm ((List.Perm.swap _ _ _).trans ((List.Perm.swap _ _ _).cons _))
  have H3 := Lib.hid h3
  have HW3 := Lib.hid hw3
  obtain ⟨kb, hkb⟩ : ∃ kb, kb = w2.heap.size := ⟨_, rfl⟩
  rw [← hkb] at H3 ⊢
  rw [← HW3.out]
  clear hkb
  clear h3 hw3 t0 t1 t2 t3 k0 k1 k2 k3
  have hka7 : n8 a % 8 = 7 := by rw [hka, ha]; rfl
  rw [hka7]
  clear hka7 hka
  go_loopg [10] n (fun q v10 wr => ∃ j : Nat, j + q = n ∧ v10 = .int .i64 j ∧ Sep B w0 wr (diskOb d rb n lay D :: knownOb S k gb gd d size n (crTo (mvK b c) D j) :: blkOb kb 3 #[.int .i64 (zb : Int), .int .i64 (zc : Int)] :: os))
  case atStart => exact ⟨0, by omega, rfl, by rw [crTo_zero]; exact H3.out⟩
  case round =>
    obtain ⟨j, hj, rfl, hs⟩ := hrel
    have hj' : j ≤ n := by omega
    have HJ := Lib.hid hj
    have HS := Lib.hid hs
    obtain ⟨k0, k1, k2, k3⟩ := hs.known.cells
    by_cases hlt : j < n
    · obtain ⟨Bj, cj, e1, e2, e3, e4, e5⟩ := hs.known.slot j hlt
      have hcx : crTo (mvK b c) D j j = D j := by simp [crTo]
      rw [hcx] at e1 e2 e5
      obtain ⟨u1, u2, u3⟩ := H2.out.known.nums j hlt
      obtain ⟨y, hy⟩ : ∃ y, j % 2 = y := ⟨_, rfl⟩
      have hkblk : Blk wr kb 3 #[.int .i64 (zb : Int), .int .i64 (zc : Int)] := hs.get (.tail _ (.tail _ (.head _)))
      have hy2 : y = 0 ∨ y = 1 := by omega
      obtain ⟨z, hz4, hz, hkz⟩ : ∃ z : Nat, z < 4 ∧ wr.cell? ⟨kb, y, none⟩ = some (.int .i64 (z : Int)) ∧ keepAt (mvK b c) j = (z : Int) := by
        unfold keepAt
        rw [HMK.out]
        rcases hy2 with e | e
        · exact ⟨zb, hzb4, by rw [e]; exact hkblk.cell 0, by simp only [List.length_cons, List.length_nil]; rw [hy, e]; rfl⟩
        · exact ⟨zc, hzc4, by rw [e]; exact hkblk.cell 1, by simp only [List.length_cons, List.length_nil]; rw [hy, e]; rfl⟩
      have hrem2 : Int.tmod (j : Int) 2 = (y : Int) := by rw [Int.tmod_eq_emod_of_nonneg (by omega)]; omega
      have hyl : y < 2 := by omega
      obtain ⟨L, hL⟩ : ∃ L, (D j).bytes.length = L := ⟨_, rfl⟩
      obtain ⟨dur, hdur⟩ : ∃ dur, (D j).dur = dur := ⟨_, rfl⟩
      obtain ⟨K, hK⟩ : ∃ K, crashN (z : Int) (D j) = K := ⟨_, rfl⟩
      have hKe : K = dur + min z (L - dur) := by rw [← hK]; unfold crashN; rw [hL, hdur]; simp
      rw [hL] at e1 u1 u2
      rw [hdur] at e2 u1
      have hmn : (if (dur : Int) + (z : Int) < (L : Int) then (dur : Int) + (z : Int) else (L : Int)) = (K : Int) := by split <;> omega
      have hKL : K ≤ L := by omega
      have HX : Hid (crashS (keepAt (mvK b c) j) (D j) = ⟨(D j).size, (D j).bytes.take K, K⟩) := by show _ = _; rw [hkz]; unfold crashS; rw [hK]
      have hcj := e5.1
      have hcm := e5.2.1
      rw [hL] at hcj
      unfold maxLen at hcm
      have HE5 := Lib.hid e5
      have HL := Lib.hid hL
      obtain ⟨z1, z2⟩ := H2.out.known.sz
      have hL64 : L ≤ 8192 := by omega
      have HU3 := Lib.hid u3
      have hws : IntKind.i64.wrap ((dur : Int) + (z : Int)) = (dur : Int) + (z : Int) := by rw [IntKind.wrap_i64]; omega
      clear hj hs hcx hy hkblk hy2 hkz hK hKe e5 hdur hL u3
      go_wp2_with fail
      go_quiet (fail)
      have hbq : Below wr.heap.size wr (wr.drewN nq) := bel_drewN' _ _
      have H4 : Hid (Sep B w0 (wr.drewN nq) (diskOb d rb n lay D :: knownOb S k gb gd d size n (crTo (mvK b c) D j) :: blkOb kb 3 #[.int .i64 (zb : Int), .int .i64 (zc : Int)] :: os)) := HS.out.below hbq
      have HE4 : Hid (BytesAt (wr.drewN nq) S Bj cj (D j).bytes) := HE5.out.chg HS.out.known.cel.lt (Chg.of_below (F := fun _ => False) hbq) (fun _ _ h => h)
      have e1' : (wr.drewN nq).cell? ⟨gb, j, none⟩ = some (.slice Bj L cj) := e1
      have e2' : (wr.drewN nq).cell? ⟨gd, j, none⟩ = some (.int .i64 (dur : Int)) := e2
      have e3' : (wr.drewN nq).frozen? ⟨gb, j, none⟩ = false := e3
      have e4' : (wr.drewN nq).frozen? ⟨gd, j, none⟩ = false := e4
      generalize wr.drewN nq = w4 at hbq H4 HE4 e1' e2' e3' e4' ⊢
      clear hbq k0 k1 k2 k3 e1 e2 e3 e4 hz hrem2 hmn
      obtain ⟨k0, k1, k2, k3⟩ := H4.out.known.cells
      have hKc : K ≤ cj := by omega
      have hKc' : (K : Int) ≤ (cj : Int) := by omega
      have hK0 : (0 : Int) ≤ (K : Int) := by omega
      have hKK : (K : Int) ≤ (K : Int) := by omega
      have HUP : Hid (IsKnown ((w4.setCell ⟨gb, j, none⟩ (.slice Bj K K)).setCell ⟨gd, j, none⟩ (.int .i64 (K : Int))) S k gb gd d size n (crTo (mvK b c) D (j + 1))) := by
        have hln : ((D j).bytes.take K).length = K := by rw [List.length_take, HL.out]; omega
        have hba : BytesAt w4 S Bj K ((D j).bytes.take K) := ⟨by rw [hln]; exact Nat.le_refl _, by unfold maxLen; omega, (HE4.out.take K).2.2⟩
        have := H4.out.known.upd hlt ⟨(D j).size, (D j).bytes.take K, K⟩ Bj K hba ⟨by simp only; rw [hln]; exact Nat.le_refl _, by simp only; rw [hln]; omega, HU3.out⟩
        simp only at this
        rw [hln] at this
        show IsKnown _ _ _ _ _ _ _ _ _
        rw [crTo_succ, HX.out]
        exact this
      cases Bj with
      | none =>
        have f3 : (w4.setCell ⟨gb, j, none⟩ (.slice none K K)).cell? ⟨gd, j, none⟩ = some (.int .i64 (dur : Int)) := (World.cell?_setCell_other _ _ _ _ (fun e => gne3 (congrArg Addr.block e))).trans e2'
        have f4 : (w4.setCell ⟨gb, j, none⟩ (.slice none K K)).frozen? ⟨gd, j, none⟩ = false := (World.frozen?_setCell _ _ _ _).trans e4'
        go_wp2_with fail
        refine wp_region_stores' (tF := ?tFn) 178 208 [22, 24] [178, 179, 180, 181, 182, 183, 184, 185, 186, 187, 188, 189, 190, 191, 192, 193, 194, 195, 196, 197, 198, 199, 200] [(0, 0), (0, 0), (0, 0), (0, 0), (0, 0), (0, 1), (0, 1), (0, 1), (0, 0), (0, 1), (0, 0), (0, 0), (0, 0), (0, 0), (0, 0), (0, 0), (0, 0), (0, 0), (0, 0), (0, 0), (0, 1), (0, 0), (0, 1), (1, 1), (1, 2)]
          [.pointer (some ⟨k, 0, none⟩), .pointer (some ⟨k, 0, none⟩), .pointer (some ⟨k, 2, none⟩), .slice (some ⟨gb, 0, none⟩) n n, .int .i64 (j : Int), .pointer (some ⟨k, 0, none⟩), .pointer (some ⟨k, 0, none⟩), .pointer (some ⟨k, 3, none⟩), .slice (some ⟨gd, 0, none⟩) n n, .int .i64 (j : Int), .pointer (some ⟨k, 0, none⟩), .pointer (some ⟨k, 0, none⟩), .pointer (some ⟨k, 2, none⟩), .slice (some ⟨gb, 0, none⟩) n n, .int .i64 (j : Int), .pointer (some ⟨gb, j, none⟩), .slice none L cj, .int .i64 (K : Int), .int .i64 (K : Int), .slice none K K, .int .i64 (K : Int), .pointer (some ⟨gb, j, none⟩), .pointer (some ⟨gd, j, none⟩)]
          (fun r => if r = 0 then w4.drew else if r = 1 then (w4.setCell ⟨gb, j, none⟩ (.slice none K K)).drew else ((w4.setCell ⟨gb, j, none⟩ (.slice none K K)).setCell ⟨gd, j, none⟩ (.int .i64 (K : Int))).drew)
          (by kernel_rfl) (by kernel_rfl) (by kernel_rfl) rfl rfl ?hFn ?hvaln ?hstn ?hendn
        case hFn =>
          simp only [setAll, List.zip_cons_cons, List.zip_nil_right, List.foldl_cons, List.foldl_nil, List.setIfInBounds_toArray, List.set_cons_succ, List.set_cons_zero]
          rfl
        case hvaln =>
          intro q o t r lo hi ho ht hr h1 h2
          iterate 25
            rcases q with _ | q
            · injection ho with ho
              subst ho
              injection hr with hr
              injection hr with hr1 hr2
              subst hr1 hr2
              first
                | (cases ht; done)
                | (injection ht with ht
                   subst ht
                   have hr01 : r = 0 ∨ r = 1 ∨ r = 2 := by omega
                   rcases hr01 with rfl | rfl | rfl <;>
                     first
                     | (exfalso; omega)
                     | (refine ⟨_, rfl, ?_⟩; go_simp; done))
          cases ho
        case hstn =>
          intro q o hq ho
          rcases q with _ | q
          · injection ho with ho
            subst ho
            go_simp
          · rcases q with _ | q
            · injection ho with ho
              subst ho
              go_simp
            · exact absurd hq (by simp only [List.length_cons, List.length_nil]; omega)
        case hendn =>
          have hs6 := (H4.out.knownTo (((Chg.refl (kfoot S k gb gd) w4).setCell (p := ⟨gb, j, none⟩) (.inl (.inr (.inl rfl))) _).setCell (p := ⟨gd, j, none⟩) (.inl (.inr (.inr (.inl rfl)))) _) HUP.out (fun q hq => .inl hq)).drew
          have HS6 := Lib.hid hs6
          obtain ⟨w7, hw7⟩ : ∃ w7, w7 = ((w4.setCell ⟨gb, j, none⟩ (.slice none K K)).setCell ⟨gd, j, none⟩ (.int .i64 (K : Int))).drew := ⟨_, rfl⟩
          rw [← hw7] at HS6
          dsimp only
          rw [if_neg (show ¬ ([22, 24] : List Nat).length = 0 by decide), if_neg (show ¬ ([22, 24] : List Nat).length = 1 by decide), ← hw7]
          clear hs6 hw7 HUP
          go_wp2_with fail
          go_roundg (gk - 1)
          case measure => have := HJ.out; omega
          case rel => exact ⟨j + 1, by have := HJ.out; omega, by go_num, HS6.out⟩
      | some Bj =>
        have f3 : (w4.setCell ⟨gb, j, none⟩ (.slice (some Bj) K K)).cell? ⟨gd, j, none⟩ = some (.int .i64 (dur : Int)) := (World.cell?_setCell_other _ _ _ _ (fun e => gne3 (congrArg Addr.block e))).trans e2'
        have f4 : (w4.setCell ⟨gb, j, none⟩ (.slice (some Bj) K K)).frozen? ⟨gd, j, none⟩ = false := (World.frozen?_setCell _ _ _ _).trans e4'
        go_wp2_with fail
        refine wp_region_stores' (tF := ?tFs) 178 208 [22, 24] [178, 179, 180, 181, 182, 183, 184, 185, 186, 187, 188, 189, 190, 191, 192, 193, 194, 195, 196, 197, 198, 199, 200] [(0, 0), (0, 0), (0, 0), (0, 0), (0, 0), (0, 1), (0, 1), (0, 1), (0, 0), (0, 1), (0, 0), (0, 0), (0, 0), (0, 0), (0, 0), (0, 0), (0, 0), (0, 0), (0, 0), (0, 0), (0, 1), (0, 0), (0, 1), (1, 1), (1, 2)]
          [.pointer (some ⟨k, 0, none⟩), .pointer (some ⟨k, 0, none⟩), .pointer (some ⟨k, 2, none⟩), .slice (some ⟨gb, 0, none⟩) n n, .int .i64 (j : Int), .pointer (some ⟨k, 0, none⟩), .pointer (some ⟨k, 0, none⟩), .pointer (some ⟨k, 3, none⟩), .slice (some ⟨gd, 0, none⟩) n n, .int .i64 (j : Int), .pointer (some ⟨k, 0, none⟩), .pointer (some ⟨k, 0, none⟩), .pointer (some ⟨k, 2, none⟩), .slice (some ⟨gb, 0, none⟩) n n, .int .i64 (j : Int), .pointer (some ⟨gb, j, none⟩), .slice (some Bj) L cj, .int .i64 (K : Int), .int .i64 (K : Int), .slice (some Bj) K K, .int .i64 (K : Int), .pointer (some ⟨gb, j, none⟩), .pointer (some ⟨gd, j, none⟩)]
          (fun r => if r = 0 then w4.drew else if r = 1 then (w4.setCell ⟨gb, j, none⟩ (.slice (some Bj) K K)).drew else ((w4.setCell ⟨gb, j, none⟩ (.slice (some Bj) K K)).setCell ⟨gd, j, none⟩ (.int .i64 (K : Int))).drew)
          (by kernel_rfl) (by kernel_rfl) (by kernel_rfl) rfl rfl ?hFs ?hvals ?hsts ?hends
        case hFs =>
          simp only [setAll, List.zip_cons_cons, List.zip_nil_right, List.foldl_cons, List.foldl_nil, List.setIfInBounds_toArray, List.set_cons_succ, List.set_cons_zero]
          rfl
        case hvals =>
          intro q o t r lo hi ho ht hr h1 h2
          iterate 25
            rcases q with _ | q
            · injection ho with ho
              subst ho
              injection hr with hr
              injection hr with hr1 hr2
              subst hr1 hr2
              first
                | (cases ht; done)
                | (injection ht with ht
                   subst ht
                   have hr01 : r = 0 ∨ r = 1 ∨ r = 2 := by omega
                   rcases hr01 with rfl | rfl | rfl <;>
                     first
                     | (exfalso; omega)
                     | (refine ⟨_, rfl, ?_⟩; go_simp; done))
          cases ho
        case hsts =>
          intro q o hq ho
          rcases q with _ | q
          · injection ho with ho
            subst ho
            go_simp
          · rcases q with _ | q
            · injection ho with ho
              subst ho
              go_simp
            · exact absurd hq (by simp only [List.length_cons, List.length_nil]; omega)
        case hends =>
          have hs6 := (H4.out.knownTo (((Chg.refl (kfoot S k gb gd) w4).setCell (p := ⟨gb, j, none⟩) (.inl (.inr (.inl rfl))) _).setCell (p := ⟨gd, j, none⟩) (.inl (.inr (.inr (.inl rfl)))) _) HUP.out (fun q hq => .inl hq)).drew
          have HS6 := Lib.hid hs6
          obtain ⟨w7, hw7⟩ : ∃ w7, w7 = ((w4.setCell ⟨gb, j, none⟩ (.slice (some Bj) K K)).setCell ⟨gd, j, none⟩ (.int .i64 (K : Int))).drew := ⟨_, rfl⟩
          rw [← hw7] at HS6
          dsimp only
          rw [if_neg (show ¬ ([22, 24] : List Nat).length = 0 by decide), if_neg (show ¬ ([22, 24] : List Nat).length = 1 by decide), ← hw7]
          clear hs6 hw7 HUP
          go_wp2_with fail
          go_roundg (gk - 1)
          case measure => have := HJ.out; omega
          case rel => exact ⟨j + 1, by have := HJ.out; omega, by go_num, HS6.out⟩
    · have e8 : j = n := by omega
      subst e8
      have hdc : Sep B w0 wr (diskOb d rb j lay D :: knownOb S k gb gd d size j (crashD (mvK b c) D) :: blkOb kb 3 #[.int .i64 (zb : Int), .int .i64 (zc : Int)] :: os) :=
        hs.step1 (a' := knownOb S k gb gd d size j (crashD (mvK b c) D)) (Chg.refl _ _) (hs.known.congr (fun q hq => by unfold crTo crashD; rw [if_pos hq])) (fun q hq => .inl hq)
      have HDC := Lib.hid hdc
      have HC : Hid (∀ X D', Sep B w0 X (diskOb d rb j lay D' :: knownOb S k gb gd d size j (crashD (mvK b c) D) :: blkOb kb 3 #[.int .i64 (zb : Int), .int .i64 (zc : Int)] :: os) → Reads X X.heap.size 1 (some ⟨kb, 0, none⟩) 2 (ints (mvK b c))) := fun X D' hX => by
        have hb : Blk X kb 3 #[.int .i64 (zb : Int), .int .i64 (zc : Int)] := hX.get (.tail _ (.tail _ (.head _)))
        rw [HMK.out]
        refine ⟨rfl, fun _ => ⟨_, rfl, hb.lt, fun q u hu => ?_⟩⟩
        rw [add_zero_addr, hb.cell]
        simpa [ints] using hu
      clear hj hs hdc
      go_wp2_with fail
      refine (sep_crashdisk HDC.out (AllCells.cons (cellOb_known _ _ _ _ _ _ _ _) (AllCells.cons (cellOb_blk _ _ _) HCC.out)) hn hm34 _ 2 2 (mvK b c) HC.out (by omega) (by omega) (by rw [HMK.out]; intro z hz; simp at hz; omega)).mono ?_
      rintro e w5 ⟨rfl, hs⟩
      have H5 := Lib.hid hs
      clear hs
      go_wp2_with fail
      go_ret
      exact ⟨rfl, lay, S, H5.out.sub (((List.sublist_cons_self _ _).cons_cons _).cons_cons _)⟩
end
end Go.Proofs.Ytelobbigpgfobaa
